/- The functions of the law, one after the other: what a run of D answers. -/
import Derived.Test.YtfhdhnbnnlpdfaaGreatDoorWg
import Derived.Test.YtfhdhnbnnlpdfaaGreatDoorFull
import Derived.Test.YtfhdhnbnnlpdfaaGreatDoorW0
import Derived.Laws.RangeString
import Derived.Laws.RangeAny
import Derived.Laws.StructEq
namespace Go.D
open Go.Proofs
set_option maxRecDepth 100000
set_option linter.unusedVariables false
set_option linter.unusedSimpArgs false
abbrev NumP (tab : Tab) : Prop := ∀ (h : H) (p : Nat) (v : Value) (l : List UInt8) (e : Int), tab.ng ≤ h.next → RDp tab h p v e → BT tab h v l → l.length < 1000000 →
 ∃ h' v', callR (EV tab) 81 [.pointer (some ⟨p, 0, none⟩)] h = some (.int .u64 ((numI (l, e)).1 : Nat), h') ∧ RDp tab h' p v' (numI (l, e)).2.2 ∧ BT tab h' v' (numI (l, e)).2.1 ∧ KeptX p h h'
theorem RDp.no {tab : Tab} {h : H} {p : Nat} {v : Value} {e : Int} (r : RDp tab h p v e) : NB h p := nb_cells r.2.2 (by decide)
theorem small_run (tab : Tab) (hx : ∀ l, callExt (EV tab) 84 l = none) (hN : NumP tab) (fi : FirstP tab) (h : H) (p : Nat) (v : Value) (l : List UInt8) (e : Int) (hng : tab.ng ≤ h.next) (hr : RDp tab h p v e) (hb : BT tab h v l) (hl : l.length < 1000000) :
  ∃ h' v', callR (EV tab) 84 [.pointer (some ⟨p, 0, none⟩)] h = some (.int .i64 ((smallI (l, e)).1 : Nat), h') ∧ RDp tab h' p v' (smallI (l, e)).2.2 ∧ BT tab h' v' (smallI (l, e)).2.1 ∧ KeptX p h h' := by
 obtain ⟨h1, v1, e1, r1, b1, k1⟩ := hN h p v l e hng hr hb hl
 have hp17 := hr.1
 have hnp : ¬ p < tab.ng := by omega
 have r3 := r1.2.2
 have hlt := r1.2.1
 have hpc := r1.no
 unfold smallI
 generalize hn : numI (l, e) = s at e1 r1 b1 r3
 obtain ⟨n, l', e'⟩ := s
 simp only at e1 r1 b1 r3 ⊢
 by_cases q : 2 ^ 62 < n
 ·have d1 : decide ((4611686018427387904 : Int) < (n : Int)) = true := decide_eq_true (by omega)
  rw [if_pos q]
  have hn1 : tab.ng ≤ h1.next := Nat.le_trans hng k1.le
  have hpn : ¬ h1.next = p := by omega
  have ef := fi (h1.push (.cells 26 1 [.int .i64 e', .int .i64 1])) h1.next 5 2 [e', 1] hn1 (H.get_push_self _ _) rfl (by decide)
  have f1 : firstI [e', 1] = if e' = 0 then 1 else e' := by simp only [firstI]; split <;> rfl
  rw [f1] at ef
  generalize he : callR _ _ _ _ = x
  rw [enter84 _ _ _ (hx _) rfl] at he
  simp only [sS, sevalprocAttr, fF84, tT, sN, subD, rdsub1, ng_eq, tabL_ng, hnp, e1, iGtr, gt_iff_lt, d1, r3, hpn, ef, op_nil] at he
  subst he
  have k : KeptX p h1 ((h1.push (.cells 26 1 [.int .i64 e', .int .i64 1])).put p (.cells 126 2 [v1, .int .i64 (if e' = 0 then 1 else e')])) := ((KeptX.refl p h1).push _).put _
  exact ⟨_, v1, rfl, ⟨hr.1, Nat.lt_of_lt_of_le hlt k.le, by rw [H.get_put, if_pos rfl]⟩, b1.keptX k hpc, k1.trans k⟩
 ·have d1 : decide ((4611686018427387904 : Int) < (n : Int)) = false := decide_eq_false (by omega)
  have w1 : IntKind.i64.wrap (n : Int) = n := IntWalk.i64_in _ (by omega)
  rw [if_neg q]
  generalize he : callR _ _ _ _ = x
  rw [enter84 _ _ _ (hx _) rfl] at he
  simp only [sS, sevalprocAttr, fF84, tT, sN, subD, rdsub1, ng_eq, tabL_ng, hnp, e1, iGtr, gt_iff_lt, d1, w1, op_nil] at he
  subst he
  exact ⟨_, v1, rfl, r1, b1, k1⟩
theorem smallI_le (r : Rd) : (smallI r).1 ≤ 2 ^ 62 := by
 unfold smallI
 split
 ·exact Nat.zero_le _
 ·omega
abbrev SmP (tab : Tab) : Prop := ∀ (h : H) (p : Nat) (v : Value) (l : List UInt8) (e : Int), tab.ng ≤ h.next → RDp tab h p v e → BT tab h v l → l.length < 1000000 →
 ∃ h' v', callR (EV tab) 84 [.pointer (some ⟨p, 0, none⟩)] h = some (.int .i64 ((smallI (l, e)).1 : Nat), h') ∧ RDp tab h' p v' (smallI (l, e)).2.2 ∧ BT tab h' v' (smallI (l, e)).2.1 ∧ KeptX p h h'
theorem rem2 (n : Nat) : iRem .i64 (n : Int) 2 = some (.int .i64 ((n % 2 : Nat) : Int)) := by
 unfold iRem
 rw [if_neg (by decide)]
 rfl
theorem quo2 (n : Nat) (h : n ≤ 4611686018427387904) : iQuo .i64 (n : Int) 2 = some (.int .i64 ((n / 2 : Nat) : Int)) := by
 unfold iQuo
 rw [if_neg (by decide)]
 have h2 : (n : Int).tdiv 2 = ((n / 2 : Nat) : Int) := rfl
 rw [h2, IntWalk.i64_in _ (by omega)]
theorem signed_run (tab : Tab) (hx : ∀ l, callExt (EV tab) 82 l = none) (hS : SmP tab) (h : H) (p : Nat) (v : Value) (l : List UInt8) (e : Int) (hng : tab.ng ≤ h.next) (hr : RDp tab h p v e) (hb : BT tab h v l) (hl : l.length < 1000000) :
  ∃ h' v', callR (EV tab) 82 [.pointer (some ⟨p, 0, none⟩)] h = some (.int .i64 (signI (l, e)).1, h') ∧ RDp tab h' p v' (signI (l, e)).2.2 ∧ BT tab h' v' (signI (l, e)).2.1 ∧ KeptX p h h' := by
 obtain ⟨h1, v1, e1, r1, b1, k1⟩ := hS h p v l e hng hr hb hl
 have hle := smallI_le (l, e)
 unfold signI
 generalize hn : smallI (l, e) = s at e1 r1 b1 hle
 obtain ⟨n, l', e'⟩ := s
 simp only at e1 r1 b1 hle ⊢
 have r2 := rem2 n
 have q2 := quo2 n (by omega)
 unfold sgnN
 by_cases q : n % 2 = 1
 ·have d1 : (((n % 2 : Nat) : Int) == 1) = true := by rw [q]; rfl
  have a1 : iAdd .i64 ((n / 2 : Nat) : Int) 1 = some (.int .i64 ((n / 2 + 1 : Nat) : Int)) := by unfold iAdd; rw [IntWalk.i64_in _ (by omega)]; rfl
  have s1 : iSub .i64 0 ((n / 2 + 1 : Nat) : Int) = some (.int .i64 (-((n / 2 + 1 : Nat) : Int))) := by unfold iSub; rw [IntWalk.i64_in _ (by omega), Int.zero_sub]
  rw [if_pos q]
  generalize he : callR _ _ _ _ = x
  rw [enter82 _ _ _ (hx _) rfl] at he
  simp only [sS, sevalprocAttr, fF82, tT, e1, r2, q2, iEql, d1, a1, s1] at he
  subst he
  exact ⟨_, v1, rfl, r1, b1, k1⟩
 ·have d1 : (((n % 2 : Nat) : Int) == 1) = false := by rw [beq_eq_false_iff_ne]; omega
  rw [if_neg q]
  generalize he : callR _ _ _ _ = x
  rw [enter82 _ _ _ (hx _) rfl] at he
  simp only [sS, sevalprocAttr, fF82, tT, e1, r2, q2, iEql, d1] at he
  subst he
  exact ⟨_, v1, rfl, r1, b1, k1⟩
theorem leN_append : ∀ (a b : List UInt8), leN (a ++ b) = leN a + leN b * 256 ^ a.length
 | [], b => by simp [leN]
 | x :: a, b => by
  rw [List.cons_append, leN, leN, leN_append a b, List.length_cons, Nat.pow_succ, Nat.mul_add, Nat.add_assoc]
  congr 2
  rw [Nat.mul_comm (256 ^ a.length) 256, ← Nat.mul_assoc, Nat.mul_comm 256 (leN b), Nat.mul_assoc]
theorem pow8 (i : Nat) : (2 : Nat) ^ (8 * i) = 256 ^ i := by rw [Nat.pow_mul]
theorem shl8 (g i : Nat) (hi : i < 8) (hg : g * 256 ^ i < 18446744073709551616) : iShl .u64 (g : Int) ((8 * i : Nat) : Int) = some (.int .u64 ((g * 256 ^ i : Nat) : Int)) := by
 unfold iShl
 rw [if_neg (by omega)]
 have h1 : min ((8 * i : Nat) : Int).toNat IntKind.u64.bits = 8 * i := by rw [Int.toNat_natCast]; exact Nat.min_eq_left (by show 8 * i ≤ 64; omega)
 have h2 : (g : Int) * 2 ^ (8 * i) = ((g * 256 ^ i : Nat) : Int) := by rw [← pow8]; simp
 rw [h1, h2, u64_nat _ hg]
theorem or_add8 (o g i : Nat) (ho : o < 256 ^ i) (hg : o + g * 256 ^ i < 18446744073709551616) : iOr .u64 (o : Int) ((g * 256 ^ i : Nat) : Int) = some (.int .u64 ((o + g * 256 ^ i : Nat) : Int)) := by
 have h1 : o ||| g * 256 ^ i = o + g * 256 ^ i := by
  rw [Nat.mul_comm, ← pow8, Nat.or_comm, ← Nat.two_pow_add_eq_or_of_lt (by rw [pow8]; exact ho), Nat.add_comm]
 have h2 : (BitVec.ofInt 64 (o : Int) ||| BitVec.ofInt 64 ((g * 256 ^ i : Nat) : Int)).toNat = o + g * 256 ^ i := by
  rw [BitVec.toNat_or, BitVec.ofInt_natCast, BitVec.ofInt_natCast, BitVec.toNat_ofNat, BitVec.toNat_ofNat, Nat.mod_eq_of_lt (by omega), Nat.mod_eq_of_lt (by omega), h1]
 unfold iOr
 show some (Value.int .u64 (IntKind.u64.wrap ((BitVec.ofInt 64 (o : Int) ||| BitVec.ofInt 64 ((g * 256 ^ i : Nat) : Int)).toNat : Int))) = _
 rw [h2, u64_nat _ hg]
theorem mul8 (i : Nat) (hi : i < 100) : iMul .i64 8 (i : Int) = some (.int .i64 ((8 * i : Nat) : Int)) := by
 unfold iMul
 rw [IntWalk.i64_in _ (by omega)]
 congr 2
theorem byte_u64 (b : UInt8) : IntKind.u64.wrap (b.toNat : Int) = (b.toNat : Nat) := u64_nat _ (by have := b.toNat_lt; omega)
theorem le_step (l : List UInt8) (i : Nat) (hi : i < l.length) (h8 : l.length ≤ 8) : leN (l.take (i + 1)) = leN (l.take i) + l[i].toNat * 256 ^ i ∧ leN (l.take i) < 256 ^ i ∧ l[i].toNat * 256 ^ i < 18446744073709551616 ∧ leN (l.take i) + l[i].toNat * 256 ^ i < 18446744073709551616 := by
 have h1 : l.take (i + 1) = l.take i ++ [l[i]] := by rw [List.take_add_one, List.getElem?_eq_getElem hi]; rfl
 have hl : (l.take i).length = i := by rw [List.length_take]; omega
 have e1 : leN (l.take (i + 1)) = leN (l.take i) + l[i].toNat * 256 ^ i := by rw [h1, leN_append, hl]; simp [leN]
 have e2 := leN_lt (l.take i)
 have e3 := leN_lt (l.take (i + 1))
 rw [hl] at e2
 have hl2 : (l.take (i + 1)).length = i + 1 := by rw [List.length_take]; omega
 rw [hl2] at e3
 have e4 : (256 : Nat) ^ (i + 1) ≤ 256 ^ 8 := Nat.pow_le_pow_right (by decide) (by omega)
 have e5 : (256 : Nat) ^ 8 = 18446744073709551616 := by decide
 exact ⟨e1, e2, by omega, by omega⟩
noncomputable def fxLoop : Code := (.loop (.seq (Rg 83 3) (.seq (.cond (Operand.tmp 13) .skip (Code.exit 0)) (.seq (.block 1 (.seq (Rg 83 4) (Rg 83 5))) (Rg 83 6)))))
theorem fx_loop (tab : Tab) (h : H) (b o c : Nat) (l : List UInt8) (hm : Mem tab h b o (bs l)) (h8 : l.length ≤ 8) :
  ∀ (k i : Nat) (tm : Tr Value), i + k = l.length → tm.get 5 = some (.int .u64 (leN (l.take i) : Nat)) → tm.get 10 = some (.slice (some ⟨b, o, none⟩) l.length c) → tm.get 11 = some (.int .i64 l.length) → tm.get 12 = some (.int .i64 i) →
  ∃ tm', exR (EV tab) fxLoop ⟨false, 26, tm, h⟩ = some (.exit 0, ⟨false, 26, tm', h⟩) ∧ tm'.get 5 = some (.int .u64 (leN l : Nat)) := by
 intro k
 induction k with
 | zero =>
  intro i tm hk t5 t10 t11 t12
  have d1 : decide (i < l.length) = false := decide_eq_false (by omega)
  generalize he : exR (EV tab) fxLoop ⟨false, 26, tm, h⟩ = r
  rw [fxLoop, exR_loop] at he
  simp only [sS, sevalprocAttr, fF83, tT, sN, sO, t5, t10, t11, t12, iLss, Int.ofNat_lt, d1] at he
  subst he
  rw [List.take_of_length_le (by omega)] at t5
  exact ⟨_, rfl, by simp only [Tr.get_set, Nat.reduceEqDiff, ↓reduceIte, t5]⟩
 | succ k ih =>
  intro i tm hk t5 t10 t11 t12
  have hi : i < l.length := by omega
  have d1 : decide (i < l.length) = true := decide_eq_true hi
  have hs := hm.byte i hi
  obtain ⟨s1, s2, s3, s4⟩ := le_step l i hi h8
  have a1 := shl8 l[i].toNat i (by omega) s3
  have a2 := or_add8 (leN (l.take i)) l[i].toNat i s2 s4
  have a3 := mul8 i (by omega)
  have a4 := byte_u64 l[i]
  obtain ⟨tm1, e1, b5, b10, b11, b12⟩ : ∃ tm1, exR (EV tab) fxLoop ⟨false, 26, tm, h⟩ = exR (EV tab) fxLoop ⟨false, 26, tm1, h⟩ ∧ tm1.get 5 = some (.int .u64 (leN (l.take (i + 1)) : Nat)) ∧ tm1.get 10 = some (.slice (some ⟨b, o, none⟩) l.length c) ∧ tm1.get 11 = some (.int .i64 l.length) ∧ tm1.get 12 = some (.int .i64 ((i + 1 : Nat) : Int)) := by
   generalize he : exR (EV tab) fxLoop ⟨false, 26, tm, h⟩ = r
   rw [fxLoop, exR_loop] at he
   simp only [sS, sevalprocAttr, fF83, tT, sN, sO, ng_eq, tabL_ng, t5, t10, t11, t12, iLss, Int.ofNat_lt, hi, decide_true, Int.natCast_nonneg, and_self, Int.toNat_natCast, hs, a1, a2, a3, a4, add1 i (by omega)] at he
   subst he
   rw [s1]
   refine ⟨_, rfl, ?_, ?_, ?_, ?_⟩ <;> simp only [Tr.get_set, Nat.reduceEqDiff, ↓reduceIte, t10, t11]
  obtain ⟨tm', x1, x2⟩ := ih (i + 1) tm1 (by omega) b5 b10 b11 b12
  exact ⟨tm', by rw [e1]; exact x1, x2⟩
theorem takeR_len (n : Nat) (r : Rd) : (takeR n r).1.length = n := by
 unfold takeR
 split
 ·rw [List.length_replicate]
 ·rename_i q
  rw [not_or] at q
  show (r.1.take n).length = n
  rw [List.length_take]; omega
theorem rfixed_run (tab : Tab) (hx : ∀ l, callExt (EV tab) 83 l = none) (hT : TakeP tab) (h : H) (p : Nat) (v : Value) (l : List UInt8) (e : Int) (n : Nat) (hn : 0 < n) (hn8 : n ≤ 8) (hng : tab.ng ≤ h.next) (hr : RDp tab h p v e) (hb : BT tab h v l) (hl : l.length < 1000000) :
  ∃ h' v', callR (EV tab) 83 [.pointer (some ⟨p, 0, none⟩), .int .i64 n] h = some (.int .u64 ((fixI n (l, e)).1 : Nat), h') ∧ RDp tab h' p v' (fixI n (l, e)).2.2 ∧ BT tab h' v' (fixI n (l, e)).2.1 ∧ KeptX p h h' := by
 obtain ⟨w, h1, v1, e1, w1, r1, b1, k1⟩ := hT h p v l e n hng hn8 hr hb hl
 have hlen := takeR_len n (l, e)
 unfold fixI
 generalize takeR n (l, e) = s at e1 w1 r1 b1 hlen
 obtain ⟨bl, l', e'⟩ := s
 simp only at e1 w1 r1 b1 hlen ⊢
 rcases w1 with ⟨_, z⟩ | ⟨b, o, c, rfl, m, _⟩
 ·rw [z] at hlen; simp at hlen; omega
 ·have key : ∀ tm h2, (h2 = h1 ∧ tm.get 5 = some (.int .u64 0) ∧ tm.get 10 = some (.slice (some ⟨b, o, none⟩) bl.length c) ∧ tm.get 11 = some (.int .i64 bl.length) ∧ tm.get 12 = some (.int .i64 0)) → ∃ x s', exR (EV tab) fxLoop ⟨false, 26, tm, h2⟩ = some (x, s') ∧
    (x = .exit 0 ∧ ∃ tm', s' = ⟨false, 26, tm', h1⟩ ∧ tm'.get 5 = some (.int .u64 (leN bl : Nat))) := fun tm h2 q => by
   obtain ⟨rfl, p5, p10, p11, p12⟩ := q
   obtain ⟨tm', x1, x2⟩ := fx_loop tab h2 b o c bl m (by omega) bl.length 0 tm (by omega) p5 p10 p11 p12
   exact ⟨_, _, x1, rfl, tm', rfl, x2⟩
  generalize he : callR _ _ _ _ = r
  rw [enter83 _ _ _ (hx _) rfl] at he
  simp only [sS, sevalprocAttr, r83_0, r83_1, r83_2, tT, e1] at he
  obtain ⟨x1, s1, ⟨rfl, tm', rfl, x2⟩, he⟩ := use_run key (fun o => finish (EV tab) [ResultVar.tmp 4] (andThen (unblock 0 o) (exR (EV tab) (.seq (Rg 83 7) .ret)))) he (by
   refine ⟨rfl, ?_, ?_, ?_, ?_⟩ <;> simp only [Tr.get_set, Nat.reduceEqDiff, ↓reduceIte])
  simp only [sS, sevalprocAttr, fF83, tT, x2] at he
  subst he
  exact ⟨_, v1, rfl, r1, b1, k1⟩
abbrev Ito (tab : Tab) : Prop := ∀ (n : Nat) (h : H), n ≤ 64 → callR (EV tab) 65 [.int .i64 n] h = some (.string ⟨⟨dec2 n⟩⟩, h)
theorem cat1 (c : UInt8) (l : List UInt8) : (ByteArray.mk ⟨[c]⟩ ++ ByteArray.mk ⟨l⟩) = ByteArray.mk ⟨c :: l⟩ := by
 apply ByteArray.ext
 rw [ByteArray.data_append]
 simp
theorem dec2_len (n : Nat) : (dec2 n).length ≤ 2 := by unfold dec2; split <;> simp
theorem cat_ok (c : UInt8) (n : Nat) : sAdd ⟨#[c]⟩ ⟨⟨dec2 n⟩⟩ = some (.string ⟨⟨c :: dec2 n⟩⟩) := by
 unfold sAdd
 have h1 : (ByteArray.mk #[c]).size = 1 := rfl
 have h2 : (ByteArray.mk ⟨dec2 n⟩).size = (dec2 n).length := rfl
 have h3 := dec2_len n
 rw [h1, h2, if_pos (Nat.ble_eq_true_of_le (by omega)), cat1]
theorem str3a {a b c : Value} : Obj.sub (.cells 9 1 [a, b, c]) 0 1 = some [a] := rfl
theorem str3b {a b c : Value} : Obj.sub (.cells 9 1 [a, b, c]) 1 1 = some [b] := rfl
theorem str3c {a b c : Value} : Obj.sub (.cells 9 1 [a, b, c]) 2 1 = some [c] := rfl
theorem byte_i64 (b : UInt8) : IntKind.i64.wrap (b.toNat : Int) = (b.toNat : Nat) := IntWalk.i64_in _ (by have := b.toNat_lt; omega)
theorem typ_run (tab : Tab) (hx : ∀ l, callExt (EV tab) 80 l = none) (hT : TakeP tab) (hI : Ito tab) (h : H) (p : Nat) (v : Value) (l : List UInt8) (e : Int) (hng : tab.ng ≤ h.next) (hr : RDp tab h p v e) (hb : BT tab h v l) (hl : l.length < 1000000) :
  ∃ h' v', callR (EV tab) 80 [.pointer (some ⟨p, 0, none⟩)] h = some (.string ⟨⟨(typI (l, e)).1⟩⟩, h') ∧ RDp tab h' p v' (typI (l, e)).2.2 ∧ BT tab h' v' (typI (l, e)).2.1 ∧ KeptX p h h' := by
 obtain ⟨b, o, c, h1, v1, e1, hs, r1, b1, k1⟩ := take1 tab hT h p v l e hng hr hb hl
 have hnp : ¬ p < tab.ng := by have := hr.1; omega
 have r3 := r1.2.2
 have hpc := r1.no
 have rs := r1.s1
 unfold typI
 generalize takeR 1 (l, e) = s at hs r1 b1 r3 rs
 obtain ⟨bl, l', e'⟩ := s
 simp only at hs r1 b1 r3 rs ⊢
 generalize bl.headD 0 = a at hs ⊢
 have hlt := a.toNat_lt
 have w1 := byte_i64 a
 by_cases q : e' = 0
 ·subst q
  have z : ((0 : Int) != 0) = false := rfl
  rw [if_neg (by simp)]
  unfold typS
  by_cases q1 : a.toNat ≤ 64
  ·have d1 : decide ((a.toNat : Int) ≤ 64) = true := decide_eq_true (by omega)
   have i1 := fun h => hI a.toNat h q1
   have c1 := cat_ok 117 a.toNat
   rw [if_pos q1]
   generalize he : callR _ _ _ _ = x
   rw [enter80 _ _ _ (hx _) rfl] at he
   simp only [sS, sevalprocAttr, fF80, tT, sN, sO, ng_eq, tabL_ng, e1, hs, hnp, r3, rs, iNeq, iLeq, z, w1, op_nil, binStr, strBin, d1, i1, c1] at he
   subst he
   exact ⟨_, v1, rfl, r1, b1, k1⟩
  have d1 : decide ((a.toNat : Int) ≤ 64) = false := decide_eq_false (by omega)
  rw [if_neg q1]
  by_cases q2 : a.toNat ≤ 128
  ·have d2 : decide ((a.toNat : Int) ≤ 128) = true := decide_eq_true (by omega)
   have i1 := fun h => hI (a.toNat - 64) h (by omega)
   have c1 := cat_ok 105 (a.toNat - 64)
   have s1 : iSub .i64 (a.toNat : Int) 64 = some (.int .i64 ((a.toNat - 64 : Nat) : Int)) := by unfold iSub; rw [IntWalk.i64_in _ (by omega)]; congr 2; omega
   rw [if_pos q2]
   generalize he : callR _ _ _ _ = x
   rw [enter80 _ _ _ (hx _) rfl] at he
   simp only [sS, sevalprocAttr, fF80, tT, sN, sO, ng_eq, tabL_ng, e1, hs, hnp, r3, rs, iNeq, iLeq, z, w1, op_nil, binStr, strBin, d1, d2, i1, c1, s1] at he
   subst he
   exact ⟨_, v1, rfl, r1, b1, k1⟩
  have d2 : decide ((a.toNat : Int) ≤ 128) = false := decide_eq_false (by omega)
  rw [if_neg q2]
  by_cases q3 : a.toNat ≤ 131
  ·have d3 : decide ((a.toNat : Int) ≤ 131) = true := decide_eq_true (by omega)
   have hc : a.toNat = 129 ∨ a.toNat = 130 ∨ a.toNat = 131 := by omega
   have hnn : ¬ h1.next < tab.ng := by have := k1.le; omega
   have kk : KeptX p h1 (h1.push (.cells 9 1 [.string ⟨#[102, 51, 50]⟩, .string ⟨#[102, 54, 52]⟩, .string ⟨#[112, 116, 114]⟩])) := (KeptX.refl p h1).push _
   have fin : RDp tab (h1.push (.cells 9 1 [.string ⟨#[102, 51, 50]⟩, .string ⟨#[102, 54, 52]⟩, .string ⟨#[112, 116, 114]⟩])) p v1 0 := ⟨r1.1, Nat.lt_of_lt_of_le r1.2.1 kk.le, by rw [H.get_push_lt _ _ r1.2.1]; exact r3⟩
   rcases hc with hc | hc | hc
   ·rw [if_pos hc]
    have s1 : iSub .i64 (a.toNat : Int) 129 = some (.int .i64 0) := by rw [hc]; rfl
    generalize he : callR _ _ _ _ = x
    rw [enter80 _ _ _ (hx _) rfl] at he
    simp only [sS, sevalprocAttr, fF80, tT, sN, sO, ng_eq, tabL_ng, e1, hs, hnp, r3, rs, iNeq, iLeq, z, w1, op_nil, binStr, strBin, Int.reduceToNat, Int.reduceLT, str3a, str3b, str3c, d1, d2, d3, s1, hnn] at he
    subst he
    exact ⟨_, v1, rfl, fin, b1.keptX kk hpc, k1.trans kk⟩
   ·rw [if_neg (by omega), if_pos hc]
    have s1 : iSub .i64 (a.toNat : Int) 129 = some (.int .i64 1) := by rw [hc]; rfl
    generalize he : callR _ _ _ _ = x
    rw [enter80 _ _ _ (hx _) rfl] at he
    simp only [sS, sevalprocAttr, fF80, tT, sN, sO, ng_eq, tabL_ng, e1, hs, hnp, r3, rs, iNeq, iLeq, z, w1, op_nil, binStr, strBin, Int.reduceToNat, Int.reduceLT, str3a, str3b, str3c, d1, d2, d3, s1, hnn] at he
    subst he
    exact ⟨_, v1, rfl, fin, b1.keptX kk hpc, k1.trans kk⟩
   ·rw [if_neg (by omega), if_neg (by omega), if_pos hc]
    have s1 : iSub .i64 (a.toNat : Int) 129 = some (.int .i64 2) := by rw [hc]; rfl
    generalize he : callR _ _ _ _ = x
    rw [enter80 _ _ _ (hx _) rfl] at he
    simp only [sS, sevalprocAttr, fF80, tT, sN, sO, ng_eq, tabL_ng, e1, hs, hnp, r3, rs, iNeq, iLeq, z, w1, op_nil, binStr, strBin, Int.reduceToNat, Int.reduceLT, str3a, str3b, str3c, d1, d2, d3, s1, hnn] at he
    subst he
    exact ⟨_, v1, rfl, fin, b1.keptX kk hpc, k1.trans kk⟩
  have d3 : decide ((a.toNat : Int) ≤ 131) = false := decide_eq_false (by omega)
  rw [if_neg (by omega), if_neg (by omega), if_neg (by omega)]
  by_cases q4 : a.toNat = 255
  ·have z4 : ((a.toNat : Int) != 255) = false := by rw [q4]; rfl
   rw [if_pos q4]
   generalize he : callR _ _ _ _ = x
   rw [enter80 _ _ _ (hx _) rfl] at he
   simp only [sS, sevalprocAttr, fF80, tT, sN, sO, ng_eq, tabL_ng, e1, hs, hnp, r3, rs, iNeq, iLeq, z, w1, op_nil, binStr, strBin, d1, d2, d3, z4] at he
   subst he
   exact ⟨_, v1, rfl, r1, b1, k1⟩
  ·have z4 : ((a.toNat : Int) != 255) = true := by rw [bne_iff_ne]; omega
   rw [if_neg q4]
   generalize he : callR _ _ _ _ = x
   rw [enter80 _ _ _ (hx _) rfl] at he
   simp only [sS, sevalprocAttr, fF80, tT, sN, sO, ng_eq, tabL_ng, e1, hs, hnp, r3, rs, iNeq, iLeq, z, w1, op_nil, binStr, strBin, d1, d2, d3, z4] at he
   subst he
   have k : KeptX p h1 (h1.put p (.cells 126 2 [v1, .int .i64 12])) := (KeptX.refl p h1).put _
   exact ⟨_, v1, rfl, ⟨r1.1, r1.2.1, by rw [H.get_put, if_pos rfl]⟩, b1.keptX k hpc, k1.trans k⟩
 ·have z : (e' != 0) = true := by simpa using q
  rw [if_pos q]
  generalize he : callR _ _ _ _ = x
  rw [enter80 _ _ _ (hx _) rfl] at he
  simp only [sS, sevalprocAttr, fF80, tT, sN, sO, ng_eq, tabL_ng, e1, hs, hnp, r3, rs, iNeq, iLeq, z, w1, op_nil, binStr, strBin] at he
  subst he
  exact ⟨_, v1, rfl, r1, b1, k1⟩
theorem RDp.keep {tab : Tab} {h h' : H} {p q : Nat} {v : Value} {e : Int} (r : RDp tab h p v e) (k : KeptX q h h') (hq : p ≠ q) : RDp tab h' p v e := ⟨r.1, Nat.lt_of_lt_of_le r.2.1 k.le, by rw [k.get p r.2.1 hq]; exact r.2.2⟩
structure KeptY (p q : Nat) (h h' : H) : Prop where
 le : h.next ≤ h'.next
 get : ∀ c, c < h.next → c ≠ p → c ≠ q → h'.get c = h.get c
theorem KeptY.refl (p q : Nat) (h : H) : KeptY p q h h := ⟨Nat.le_refl _, fun _ _ _ _ => rfl⟩
theorem KeptY.trans {p q : Nat} {a b c : H} (x : KeptY p q a b) (y : KeptY p q b c) : KeptY p q a c := ⟨Nat.le_trans x.le y.le, fun d hd hp hq => (y.get d (Nat.lt_of_lt_of_le hd x.le) hp hq).trans (x.get d hd hp hq)⟩
theorem KeptX.y1 {p q : Nat} {h h' : H} (k : KeptX p h h') : KeptY p q h h' := ⟨k.le, fun c hc hp _ => k.get c hc hp⟩
theorem KeptX.y2 {p q : Nat} {h h' : H} (k : KeptX q h h') : KeptY p q h h' := ⟨k.le, fun c hc _ hq => k.get c hc hq⟩
theorem KeptY.kept {p q : Nat} {h0 h h' : H} (k : KeptY p q h h') (k0 : Kept h0 h) (hp : h0.next ≤ p) (hq : h0.next ≤ q) : Kept h0 h' :=
 ⟨Nat.le_trans k0.le k.le, fun c hc => (k.get c (Nat.lt_of_lt_of_le hc k0.le) (by omega) (by omega)).trans (k0.get c hc)⟩
theorem KeptY.weak {p q p' q' : Nat} {h h' : H} (k : KeptY p q h h') (hp : p = p') (hq : q = q') : KeptY p' q' h h' := by subst hp hq; exact k
structure RdX (tab : Tab) : Prop where
 x1 : ∀ l, callExt (EV tab) 47 l = none
 ty : ∀ (h : H) (p : Nat) (v : Value) (l : List UInt8) (e : Int), tab.ng ≤ h.next → RDp tab h p v e → BT tab h v l → l.length < 1000000 →
  ∃ h' v', callR (EV tab) 80 [.pointer (some ⟨p, 0, none⟩)] h = some (.string ⟨⟨(typI (l, e)).1⟩⟩, h') ∧ RDp tab h' p v' (typI (l, e)).2.2 ∧ BT tab h' v' (typI (l, e)).2.1 ∧ KeptX p h h'
 nu : NumP tab
 sm : SmP tab
 sg : ∀ (h : H) (p : Nat) (v : Value) (l : List UInt8) (e : Int), tab.ng ≤ h.next → RDp tab h p v e → BT tab h v l → l.length < 1000000 →
  ∃ h' v', callR (EV tab) 82 [.pointer (some ⟨p, 0, none⟩)] h = some (.int .i64 (signI (l, e)).1, h') ∧ RDp tab h' p v' (signI (l, e)).2.2 ∧ BT tab h' v' (signI (l, e)).2.1 ∧ KeptX p h h'
 fx : ∀ (h : H) (p : Nat) (v : Value) (l : List UInt8) (e : Int) (n : Nat), 0 < n → n ≤ 8 → tab.ng ≤ h.next → RDp tab h p v e → BT tab h v l → l.length < 1000000 →
  ∃ h' v', callR (EV tab) 83 [.pointer (some ⟨p, 0, none⟩), .int .i64 n] h = some (.int .u64 ((fixI n (l, e)).1 : Nat), h') ∧ RDp tab h' p v' (fixI n (l, e)).2.2 ∧ BT tab h' v' (fixI n (l, e)).2.1 ∧ KeptX p h h'
theorem set_ins {tab : Tab} {h h1 : H} {p q : Nat} {v1 : Value} {l' : List UInt8} {e' : Int} (z : Ins) (k1 : KeptX p h h1) (hpq : q ≠ p) (hq : q < h.next) (r1 : RDp tab h1 p v1 e') (b1 : BT tab h1 v1 l') (x : Ins) (hgq : h.get q = some (.cells 45 6 (insC x))) :
  RDp tab (h1.put q (.cells 45 6 (insC z))) p v1 e' ∧ BT tab (h1.put q (.cells 45 6 (insC z))) v1 l' ∧ (h1.put q (.cells 45 6 (insC z))).get q = some (.cells 45 6 (insC z)) ∧ KeptY p q h (h1.put q (.cells 45 6 (insC z))) := by
 have k : KeptX q h1 (h1.put q (.cells 45 6 (insC z))) := (KeptX.refl q h1).put _
 refine ⟨r1.keep k (Ne.symm hpq), b1.keptX k (nb_cells (by rw [k1.get q hq hpq]; exact hgq) (by decide)), by rw [H.get_put, if_pos rfl], k1.y1.trans k.y2⟩
theorem i32_ty (n : Nat) (h : n < 4294967296) : IntKind.i64.wrap (IntKind.i32.wrap (IntKind.u32.wrap (n : Int))) = s32 n := by
 have h1 : IntKind.u32.wrap (n : Int) = n := by show (n : Int) % 4294967296 = n; omega
 unfold s32
 rw [h1]
 have h2 : n % 4294967296 = n := Nat.mod_eq_of_lt h
 rw [h2]
 have h3 : IntKind.i32.wrap (n : Int) = if n < 2147483648 then ((n : Nat) : Int) else ((n : Nat) : Int) - 4294967296 := by
  rw [IntKind.wrap_i32]
  split <;> omega
 rw [h3]
 split <;> rw [IntWalk.i64_in _ (by omega)]
theorem fixI4_lt (r : Rd) : (fixI 4 r).1 < 4294967296 := by
 unfold fixI
 have := leN_lt (takeR 4 r).1
 rw [takeR_len] at this
 exact this
theorem read_run (tab : Tab) (hX : RdX tab) (h : H) (p q : Nat) (v : Value) (l : List UInt8) (e : Int) (x : Ins) (c : Nat) (hc : c ∈ [84, 85, 110, 76, 115, 100, 119, 80, 70]) (hng : tab.ng ≤ h.next) (hr : RDp tab h p v e) (hb : BT tab h v l) (hl : l.length < 1000000)
  (hq17 : tab.ng ≤ q) (hq : q < h.next) (hgq : h.get q = some (.cells 45 6 (insC x))) (hpq : q ≠ p) :
  ∃ h' v', callR (EV tab) 47 [.pointer (some ⟨p, 0, none⟩), .pointer (some ⟨q, 0, none⟩), .int .i32 c] h = some (.tuple ⟨[]⟩, h') ∧ RDp tab h' p v' (readI c x (l, e)).2.2 ∧ BT tab h' v' (readI c x (l, e)).2.1 ∧ h'.get q = some (.cells 45 6 (insC (readI c x (l, e)).1)) ∧ KeptY p q h h' := by
 obtain ⟨x1, ty, nu, sm, sg, fx⟩ := hX
 have hnq : ¬ q < tab.ng := by omega
 simp only [List.mem_cons, List.not_mem_nil, or_false] at hc
 obtain ⟨xo, xt, xu, xn, xi, xs⟩ := x
 rcases hc with rfl | rfl | rfl | rfl | rfl | rfl | rfl | rfl | rfl
 ·obtain ⟨h1, v1, e1, r1, b1, k1⟩ := ty h p v l e hng hr hb hl
  have hgq1 : h1.get q = some (.cells 45 6 (insC ⟨xo, xt, xu, xn, xi, xs⟩)) := by rw [k1.get q hq hpq]; exact hgq
  obtain ⟨f1, f2, f3, f4⟩ := set_ins ⟨xo, (typI (l, e)).1, xu, xn, xi, xs⟩ k1 hpq hq r1 b1 _ hgq
  simp only [insC, insL] at hgq1
  generalize he : callR _ _ _ _ = y
  rw [enter47 _ _ _ (x1 _) rfl] at he
  simp only [sS, sevalprocAttr, fF47, tT, sN, subD, ng_eq, tabL_ng, hnq, hgq1, e1, iEql, Int.cast_ofNat_Int, Int.reduceBEq, op_nil] at he
  subst he
  exact ⟨_, v1, rfl, f1, f2, f3, f4⟩
 ·obtain ⟨h1, v1, e1, r1, b1, k1⟩ := ty h p v l e hng hr hb hl
  have hgq1 : h1.get q = some (.cells 45 6 (insC ⟨xo, xt, xu, xn, xi, xs⟩)) := by rw [k1.get q hq hpq]; exact hgq
  obtain ⟨f1, f2, f3, f4⟩ := set_ins ⟨xo, xt, (typI (l, e)).1, xn, xi, xs⟩ k1 hpq hq r1 b1 _ hgq
  simp only [insC, insL] at hgq1
  generalize he : callR _ _ _ _ = y
  rw [enter47 _ _ _ (x1 _) rfl] at he
  simp only [sS, sevalprocAttr, fF47, tT, sN, subD, ng_eq, tabL_ng, hnq, hgq1, e1, iEql, Int.cast_ofNat_Int, Int.reduceBEq, op_nil] at he
  subst he
  exact ⟨_, v1, rfl, f1, f2, f3, f4⟩
 ·obtain ⟨h1, v1, e1, r1, b1, k1⟩ := nu h p v l e hng hr hb hl
  have hgq1 : h1.get q = some (.cells 45 6 (insC ⟨xo, xt, xu, xn, xi, xs⟩)) := by rw [k1.get q hq hpq]; exact hgq
  obtain ⟨f1, f2, f3, f4⟩ := set_ins ⟨xo, xt, xu, (numI (l, e)).1, xi, xs⟩ k1 hpq hq r1 b1 _ hgq
  simp only [insC, insL] at hgq1
  generalize he : callR _ _ _ _ = y
  rw [enter47 _ _ _ (x1 _) rfl] at he
  simp only [sS, sevalprocAttr, fF47, tT, sN, subD, ng_eq, tabL_ng, hnq, hgq1, e1, iEql, Int.cast_ofNat_Int, Int.reduceBEq, op_nil] at he
  subst he
  exact ⟨_, v1, rfl, f1, f2, f3, f4⟩
 ·obtain ⟨h1, v1, e1, r1, b1, k1⟩ := nu h p v l e hng hr hb hl
  have hgq1 : h1.get q = some (.cells 45 6 (insC ⟨xo, xt, xu, xn, xi, xs⟩)) := by rw [k1.get q hq hpq]; exact hgq
  obtain ⟨f1, f2, f3, f4⟩ := set_ins ⟨xo, xt, xu, (numI (l, e)).1, xi, xs⟩ k1 hpq hq r1 b1 _ hgq
  simp only [insC, insL] at hgq1
  generalize he : callR _ _ _ _ = y
  rw [enter47 _ _ _ (x1 _) rfl] at he
  simp only [sS, sevalprocAttr, fF47, tT, sN, subD, ng_eq, tabL_ng, hnq, hgq1, e1, iEql, Int.cast_ofNat_Int, Int.reduceBEq, op_nil] at he
  subst he
  exact ⟨_, v1, rfl, f1, f2, f3, f4⟩
 ·obtain ⟨h1, v1, e1, r1, b1, k1⟩ := sg h p v l e hng hr hb hl
  have hgq1 : h1.get q = some (.cells 45 6 (insC ⟨xo, xt, xu, xn, xi, xs⟩)) := by rw [k1.get q hq hpq]; exact hgq
  obtain ⟨f1, f2, f3, f4⟩ := set_ins ⟨xo, xt, xu, xn, (signI (l, e)).1, xs⟩ k1 hpq hq r1 b1 _ hgq
  simp only [insC, insL] at hgq1
  generalize he : callR _ _ _ _ = y
  rw [enter47 _ _ _ (x1 _) rfl] at he
  simp only [sS, sevalprocAttr, fF47, tT, sN, subD, ng_eq, tabL_ng, hnq, hgq1, e1, iEql, Int.cast_ofNat_Int, Int.reduceBEq, op_nil] at he
  subst he
  exact ⟨_, v1, rfl, f1, f2, f3, f4⟩
 ·obtain ⟨h1, v1, e1, r1, b1, k1⟩ := fx h p v l e 4 (by decide) (by decide) hng hr hb hl
  have hgq1 : h1.get q = some (.cells 45 6 (insC ⟨xo, xt, xu, xn, xi, xs⟩)) := by rw [k1.get q hq hpq]; exact hgq
  obtain ⟨f1, f2, f3, f4⟩ := set_ins ⟨xo, xt, xu, xn, s32 (fixI 4 (l, e)).1, xs⟩ k1 hpq hq r1 b1 _ hgq
  simp only [insC, insL] at hgq1
  have ec := i32_ty _ (fixI4_lt (l, e))
  simp only [Int.cast_ofNat_Int] at e1
  generalize he : callR _ _ _ _ = y
  rw [enter47 _ _ _ (x1 _) rfl] at he
  simp only [sS, sevalprocAttr, fF47, tT, sN, subD, ng_eq, tabL_ng, hnq, hgq1, e1, iEql, Int.cast_ofNat_Int, Int.reduceBEq, op_nil, ec] at he
  subst he
  exact ⟨_, v1, rfl, f1, f2, f3, f4⟩
 ·obtain ⟨h1, v1, e1, r1, b1, k1⟩ := fx h p v l e 8 (by decide) (by decide) hng hr hb hl
  have hgq1 : h1.get q = some (.cells 45 6 (insC ⟨xo, xt, xu, xn, xi, xs⟩)) := by rw [k1.get q hq hpq]; exact hgq
  obtain ⟨f1, f2, f3, f4⟩ := set_ins ⟨xo, xt, xu, (fixI 8 (l, e)).1, xi, xs⟩ k1 hpq hq r1 b1 _ hgq
  simp only [insC, insL] at hgq1
  simp only [Int.cast_ofNat_Int] at e1
  generalize he : callR _ _ _ _ = y
  rw [enter47 _ _ _ (x1 _) rfl] at he
  simp only [sS, sevalprocAttr, fF47, tT, sN, subD, ng_eq, tabL_ng, hnq, hgq1, e1, iEql, Int.cast_ofNat_Int, Int.reduceBEq, op_nil] at he
  subst he
  exact ⟨_, v1, rfl, f1, f2, f3, f4⟩
 ·obtain ⟨h1, v1, e1, r1, b1, k1⟩ := sm h p v l e hng hr hb hl
  have hgq1 : h1.get q = some (.cells 45 6 (insC ⟨xo, xt, xu, xn, xi, xs⟩)) := by rw [k1.get q hq hpq]; exact hgq
  obtain ⟨f1, f2, f3, f4⟩ := set_ins ⟨xo, xt, xu, xn, ((smallI (l, e)).1 : Nat), xs⟩ k1 hpq hq r1 b1 _ hgq
  simp only [insC, insL] at hgq1
  generalize he : callR _ _ _ _ = y
  rw [enter47 _ _ _ (x1 _) rfl] at he
  simp only [sS, sevalprocAttr, fF47, tT, sN, subD, ng_eq, tabL_ng, hnq, hgq1, e1, iEql, Int.cast_ofNat_Int, Int.reduceBEq, op_nil] at he
  subst he
  exact ⟨_, v1, rfl, f1, f2, f3, f4⟩
 ·obtain ⟨h1, v1, e1, r1, b1, k1⟩ := sm h p v l e hng hr hb hl
  have hgq1 : h1.get q = some (.cells 45 6 (insC ⟨xo, xt, xu, xn, xi, xs⟩)) := by rw [k1.get q hq hpq]; exact hgq
  obtain ⟨f1, f2, f3, f4⟩ := set_ins ⟨xo, xt, xu, xn, xi, ((smallI (l, e)).1 : Nat)⟩ k1 hpq hq r1 b1 _ hgq
  simp only [insC, insL] at hgq1
  generalize he : callR _ _ _ _ = y
  rw [enter47 _ _ _ (x1 _) rfl] at he
  simp only [sS, sevalprocAttr, fF47, tT, sN, subD, ng_eq, tabL_ng, hnq, hgq1, e1, iEql, Int.cast_ofNat_Int, Int.reduceBEq, op_nil] at he
  subst he
  exact ⟨_, v1, rfl, f1, f2, f3, f4⟩
structure KeptS (S : List Nat) (h h' : H) : Prop where
 le : h.next ≤ h'.next
 get : ∀ c, c < h.next → c ∉ S → h'.get c = h.get c
theorem KeptS.refl (S : List Nat) (h : H) : KeptS S h h := ⟨Nat.le_refl _, fun _ _ _ => rfl⟩
theorem KeptS.trans {S : List Nat} {a b c : H} (x : KeptS S a b) (y : KeptS S b c) : KeptS S a c := ⟨Nat.le_trans x.le y.le, fun d hd hp => (y.get d (Nat.lt_of_lt_of_le hd x.le) hp).trans (x.get d hd hp)⟩
theorem KeptS.put {S : List Nat} {p : Nat} {h h' : H} (k : KeptS S h h') (o : Obj) (hp : p ∈ S) : KeptS S h (h'.put p o) := ⟨k.le, fun c hc hs => by rw [H.get_put, if_neg (by rintro rfl; exact hs hp)]; exact k.get c hc hs⟩
theorem KeptY.s {S : List Nat} {p q : Nat} {h h' : H} (k : KeptY p q h h') (hp : p ∈ S) (hq : q ∈ S) : KeptS S h h' := ⟨k.le, fun c hc hs => k.get c hc (by rintro rfl; exact hs hp) (by rintro rfl; exact hs hq)⟩
theorem KeptS.kept {S : List Nat} {h0 h h' : H} (k : KeptS S h h') (k0 : Kept h0 h) (hS : ∀ c ∈ S, h0.next ≤ c) : Kept h0 h' :=
 ⟨Nat.le_trans k0.le k.le, fun c hc => (k.get c (Nat.lt_of_lt_of_le hc k0.le) (fun hs => by have := hS c hs; omega)).trans (k0.get c hc)⟩
abbrev RdP (tab : Tab) : Prop := ∀ (h : H) (p q : Nat) (v : Value) (l : List UInt8) (e : Int) (x : Ins) (c : Nat), c ∈ [84, 85, 110, 76, 115, 100, 119, 80, 70] → tab.ng ≤ h.next → RDp tab h p v e → BT tab h v l → l.length < 1000000 → tab.ng ≤ q → q < h.next → h.get q = some (.cells 45 6 (insC x)) → q ≠ p →
  ∃ h' v', callR (EV tab) 47 [.pointer (some ⟨p, 0, none⟩), .pointer (some ⟨q, 0, none⟩), .int .i32 c] h = some (.tuple ⟨[]⟩, h') ∧ RDp tab h' p v' (readI c x (l, e)).2.2 ∧ BT tab h' v' (readI c x (l, e)).2.1 ∧ h'.get q = some (.cells 45 6 (insC (readI c x (l, e)).1)) ∧ KeptY p q h h'
theorem takeR_le (n : Nat) (r : Rd) : (takeR n r).2.1.length ≤ r.1.length := by
 unfold takeR
 split
 ·exact Nat.le_refl _
 ·show (r.1.drop n).length ≤ _; rw [List.length_drop]; omega
theorem numG_le : ∀ (l : List UInt8) (i o : Nat), (numG l i o).2.1.length ≤ l.length
 | [], _, _ => by rw [numG]; exact Nat.le_refl _
 | b :: l, i, o => by
  rw [numG]
  split
  ·show l.length ≤ _; simp
  ·split
   ·show l.length ≤ _; simp
   ·have := numG_le l (i + 1) (o + (b.toNat - 128) * 128 ^ i)
    simp only [List.length_cons]; omega
theorem numI_le (r : Rd) : (numI r).2.1.length ≤ r.1.length := by
 unfold numI
 split
 ·exact Nat.le_refl _
 ·exact numG_le _ _ _
theorem smallI_len (r : Rd) : (smallI r).2.1.length ≤ r.1.length := by
 unfold smallI
 split <;> exact numI_le r
theorem typI_len (r : Rd) : (typI r).2.1.length ≤ r.1.length := by
 unfold typI
 split
 ·exact takeR_le 1 r
 ·split <;> exact takeR_le 1 r
theorem readI_len (c : Nat) (x : Ins) (r : Rd) : (readI c x r).2.1.length ≤ r.1.length := by
 unfold readI
 split
 ·exact typI_len r
 split
 ·exact typI_len r
 split
 ·exact numI_le r
 split
 ·exact smallI_len r
 split
 ·exact takeR_le 4 r
 split
 ·exact takeR_le 8 r
 split <;> exact smallI_len r
noncomputable def dcLoop : Code := (.loop (.seq (Rg 27 7) (.seq (.cond (Operand.tmp 34) .skip (Code.exit 0)) (.block 1 (.seq (Rg 27 8) (Rg 27 9))))))
theorem dc_loop (tab : Tab) (hR : RdP tab) (p q it : Nat) (hpq : q ≠ p) (hip : it ≠ p) (hiq : it ≠ q) (h17 : tab.ng ≤ q ∧ tab.ng ≤ it) (us : List UInt8) (hu : ∀ c ∈ us, c.toNat ∈ [84, 85, 110, 76, 115, 100, 119, 80, 70]) (ha : asc us = true) (tz t2 : Value) :
  ∀ (k i : Nat) (tm : Tr Value) (h : H) (v : Value) (x : Ins) (l : List UInt8) (e : Int), i + k = us.length → tm.get 0 = some tz → tm.get 2 = some t2 → tm.get 5 = some (.pointer (some ⟨q, 0, none⟩)) → tm.get 8 = some (.pointer (some ⟨p, 0, none⟩)) → tm.get 32 = some (.pointer (some ⟨it, 0, none⟩)) →
  tab.ng ≤ h.next → h.get it = some (.iter ⟨⟨us⟩⟩ i) → it < h.next → q < h.next → RDp tab h p v e → BT tab h v l → l.length < 1000000 → h.get q = some (.cells 45 6 (insC x)) →
  ∃ tm' h' v', exR (EV tab) dcLoop ⟨false, 60, tm, h⟩ = some (.exit 0, ⟨false, 60, tm', h'⟩) ∧ tm'.get 0 = some tz ∧ tm'.get 2 = some t2 ∧ tm'.get 5 = some (.pointer (some ⟨q, 0, none⟩)) ∧ tm'.get 8 = some (.pointer (some ⟨p, 0, none⟩)) ∧
   RDp tab h' p v' (foldI (us.drop i) (x, (l, e))).2.2 ∧ BT tab h' v' (foldI (us.drop i) (x, (l, e))).2.1 ∧ h'.get q = some (.cells 45 6 (insC (foldI (us.drop i) (x, (l, e))).1)) ∧ KeptS [p, q, it] h h' ∧ (foldI (us.drop i) (x, (l, e))).2.1.length ≤ l.length := by
 intro k
 have hni : ¬ it < tab.ng := by omega
 induction k with
 | zero =>
  intro i tm h v x l e hk t0 t2' t5 t8 t32 hng hit hil hql hr hb hl hgq
  have nd := next_done (EV tab) h it i us (by rw [ng_eq]; exact hni) hit (by omega)
  generalize he : exR (EV tab) dcLoop ⟨false, 60, tm, h⟩ = y
  rw [dcLoop, exR_loop] at he
  simp only [sS, sevalprocAttr, fF27, tT, sN, subD, oNext, ng_eq, tabL_ng, t0, t2', t5, t8, t32, nd] at he
  subst he
  have hd : us.drop i = [] := List.drop_eq_nil_of_le (by omega)
  rw [hd]
  refine ⟨_, h, v, rfl, ?_, ?_, ?_, ?_, hr, hb, hgq, KeptS.refl _ _, Nat.le_refl _⟩ <;> simp only [Tr.get_set, Nat.reduceEqDiff, ↓reduceIte, t0, t2', t5, t8]
 | succ k ih =>
  intro i tm h v x l e hk t0 t2' t5 t8 t32 hng hit hil hql hr hb hl hgq
  have hi : i < us.length := by omega
  have nd := next_more (EV tab) h it i us ha (by rw [ng_eq]; exact hni) hit hi
  have hd : us.drop i = us[i] :: us.drop (i + 1) := (List.getElem_cons_drop hi).symm
  have k0 : KeptX it h (h.put it (.iter ⟨⟨us⟩⟩ (i + 1))) := (KeptX.refl it h).put _
  have hnb : NB h it := nb_iter hit
  obtain ⟨h1, v1, e1, r1, b1, g1, k1⟩ := hR (h.put it (.iter ⟨⟨us⟩⟩ (i + 1))) p q v l e x us[i].toNat (hu _ (List.getElem_mem hi)) hng (hr.keep k0 (Ne.symm hip)) (hb.keptX k0 hnb) hl h17.1 hql (by rw [k0.get q hql (Ne.symm hiq)]; exact hgq) hpq
  obtain ⟨tm1, e2, a0, a2, a5, a8, a32⟩ : ∃ tm1, exR (EV tab) dcLoop ⟨false, 60, tm, h⟩ = exR (EV tab) dcLoop ⟨false, 60, tm1, h1⟩ ∧ tm1.get 0 = some tz ∧ tm1.get 2 = some t2 ∧ tm1.get 5 = some (.pointer (some ⟨q, 0, none⟩)) ∧ tm1.get 8 = some (.pointer (some ⟨p, 0, none⟩)) ∧ tm1.get 32 = some (.pointer (some ⟨it, 0, none⟩)) := by
   generalize he : exR (EV tab) dcLoop ⟨false, 60, tm, h⟩ = y
   rw [dcLoop, exR_loop] at he
   simp only [sS, sevalprocAttr, fF27, tT, sN, subD, oNext, ng_eq, tabL_ng, t0, t2', t5, t8, t32, nd, e1] at he
   subst he
   refine ⟨_, rfl, ?_, ?_, ?_, ?_, ?_⟩ <;> simp only [Tr.get_set, Nat.reduceEqDiff, ↓reduceIte, t0, t2', t5, t8, t32]
  have hlen := readI_len us[i].toNat x (l, e)
  obtain ⟨tm', h', v', x1, x2, x3, x4, x5, x6, x7, x8, x9, x10⟩ := ih (i + 1) tm1 h1 v1 (readI us[i].toNat x (l, e)).1 (readI us[i].toNat x (l, e)).2.1 (readI us[i].toNat x (l, e)).2.2 (by omega) a0 a2 a5 a8 a32 (Nat.le_trans hng k1.le)
   (by rw [k1.get it hil hip hiq, H.get_put, if_pos rfl]) (Nat.lt_of_lt_of_le hil k1.le) (Nat.lt_of_lt_of_le hql k1.le) r1 b1 (by simp only at hlen; omega) g1
  rw [hd]
  refine ⟨tm', h', v', by rw [e2]; exact x1, x2, x3, x4, x5, x6, x7, x8, ?_, by simp only at hlen; exact Nat.le_trans x10 hlen⟩
  exact (((KeptS.refl [p, q, it] h).put _ (by simp)).trans (k1.s (by simp) (by simp))).trans x9
structure DcX (tab : Tab) : Prop where
 x0 : ∀ l, callExt (EV tab) 27 l = none
 x1 : ∀ l, callExt (EV tab) 32 l = none
 x2 : ∀ l, callExt (EV tab) 61 l = none
 x3 : ∀ l, callExt (EV tab) 94 l = none
 rd : RdP tab
 ck : CheckP tab 36
 fi : FirstP tab
theorem readCall_len {E : Env} {tm : Tr Value} {os : Array Operand} {ts : Array TypeId} : oReadCall E tm ⟨.builtin .len, os, ts⟩ = oLen E tm ts.toList os := rfl
theorem isub1 {ty : Nat} {a b c d e f : Value} : Obj.sub (.cells ty 6 [a, b, c, d, e, f]) 0 1 = some [a] := rfl
theorem isub6 {ty : Nat} {a b c d e f : Value} : Obj.sub (.cells ty 6 [a, b, c, d, e, f]) 0 6 = some [a, b, c, d, e, f] := rfl
theorem ksub {ty : Nat} {a b c d e : Value} : Obj.sub (.cells ty 5 [a, b, c, d, e]) 1 1 = some [b] := rfl
theorem kindAt_out (n : Nat) (h : kindAt (n : Int) = none) : (n : Int) < 0 ∨ 29 ≤ (n : Int) := by
 rw [kindAt_nat] at h
 have := List.getElem?_eq_none_iff.1 h
 have e : kindT.length = 29 := rfl
 omega
theorem decode_run (tab : Tab) (hX : DcX tab) (h : H) (hng : tab.ng ≤ h.next) (v : Value) (o : UInt8) (l : List UInt8) (hb : BT tab h v (o :: l)) (hl : l.length < 999999) :
  ∃ h', callR (EV tab) 27 [v] h = some (.tuple ⟨[.agg ⟨insC (decG chkI (o :: l)).1⟩, .int .i64 ((decG chkI (o :: l)).2.1 : Nat), .int .i64 (decG chkI (o :: l)).2.2]⟩, h') ∧ Kept h h' := by
 obtain ⟨x0, x1, x2, x3, rd, ck, fi⟩ := hX
 have hbb := hb
 rcases hb with ⟨_, z⟩ | ⟨b, off, c, rfl, m, _⟩
 ·cases z
 have hs := m.byte 0 (Nat.succ_pos l.length)
 have hblt := m.lt hng
 simp only [Nat.add_zero, List.getElem_cons_zero] at hs
 have bi := byte_i64 o
 have hnn : ¬ h.next < tab.ng := by omega
 have hnn1 : ¬ h.next + 1 < tab.ng := by omega
 have n01 : ¬ h.next = h.next + 1 := by omega
 have n10 : ¬ h.next + 1 = h.next := by omega
 have nb0 : ¬ h.next = b := by omega
 have nb1 : ¬ h.next + 1 = b := by omega
 have hlen0 : (0 : Int) < ((l.length + 1 : Nat) : Int) := by omega
 have kA : Kept h (((h.push (.cells 45 6 [.int .i64 0, .string ⟨#[]⟩, .string ⟨#[]⟩, .int .u64 0, .int .i64 0, .int .i64 0])).push (.cells 45 6 [.int .i64 0, .string ⟨#[]⟩, .string ⟨#[]⟩, .int .u64 0, .int .i64 0, .int .i64 0])).put (h.next + 1) (.cells 45 6 [.int .i64 (o.toNat : Nat), .string ⟨#[]⟩, .string ⟨#[]⟩, .int .u64 0, .int .i64 0, .int .i64 0])) := (((Kept.refl h).push _).push _).put _ (by omega)
 have hcons : decG chkI (o :: l) = match kindAt (o.toNat : Int) with
  | none => (insZ, 0, 11)
  | some r =>
   if (foldI r.uses ({ insZ with op := o.toNat }, (l, 0))).2.2 ≠ 0 then (insZ, 0, (foldI r.uses ({ insZ with op := o.toNat }, (l, 0))).2.2) else
   if chkI (foldI r.uses ({ insZ with op := o.toNat }, (l, 0))).1 ≠ 0 then (insZ, 0, chkI (foldI r.uses ({ insZ with op := o.toNat }, (l, 0))).1) else
   ((foldI r.uses ({ insZ with op := o.toNat }, (l, 0))).1, l.length + 1 - (foldI r.uses ({ insZ with op := o.toNat }, (l, 0))).2.1.length, 0) := rfl
 rw [hcons]
 cases hk : kindAt (o.toNat : Int) with
 | none =>
  obtain ⟨h1, e1, k1⟩ := kindOf_out tab x1 x2 x3 (((h.push (.cells 45 6 [.int .i64 0, .string ⟨#[]⟩, .string ⟨#[]⟩, .int .u64 0, .int .i64 0, .int .i64 0])).push (.cells 45 6 [.int .i64 0, .string ⟨#[]⟩, .string ⟨#[]⟩, .int .u64 0, .int .i64 0, .int .i64 0])).put (h.next + 1) (.cells 45 6 [.int .i64 (o.toNat : Nat), .string ⟨#[]⟩, .string ⟨#[]⟩, .int .u64 0, .int .i64 0, .int .i64 0])) (by rw [H.next_put, H.next_push, H.next_push]; omega) _ (kindAt_out _ hk)
  simp only [kindZ] at e1
  have gA : h1.get h.next = some (.cells 45 6 [.int .i64 0, .string ⟨#[]⟩, .string ⟨#[]⟩, .int .u64 0, .int .i64 0, .int .i64 0]) := by
   rw [k1.get _ (by rw [H.next_put, H.next_push, H.next_push]; omega)]
   simp only [H.get_put, H.get_push, H.next_push, n10, n01, if_false, if_true]
  have n1 : ¬ h1.next < tab.ng := by have := k1.le; simp only [H.next_put, H.next_push] at this; omega
  have n2 : ¬ h1.next = h.next := by have := k1.le; simp only [H.next_put, H.next_push] at this; omega
  generalize he : callR _ _ _ _ = y
  rw [enter27 _ _ _ (x0 _) rfl] at he
  simp only [sS, sevalprocAttr, fF27, tT, sN, sO, isub1, isub6, ksub, rdsub0, rdsub1, ng_eq, tabL_ng, hnn, hnn1, n01, n10, nb0, nb1, hs, bi, hlen0, Int.le_refl, Int.toNat_zero, e1, gA, n1, n2, op_nil] at he
  subst he
  exact ⟨_, rfl, ((((kA.trans k1).push _).put _ (by have := (kA.trans k1).le; omega)).put _ (Nat.le_refl _))⟩
 | some r =>
  have hk' := hk
  rw [kindAt_nat] at hk'
  have hu := List.all_eq_true.1 kindT_uses r (List.mem_of_getElem? hk')
  simp only [Bool.and_eq_true, decide_eq_true_eq, List.all_eq_true] at hu
  have ha : asc r.uses = true := List.all_eq_true.1 kindT_asc r (List.mem_of_getElem? hk')
  have hor := rightV_one (h.next + 1 + 1 + 1) r.right
  obtain ⟨h1, e1, k1, hn1, -⟩ := kindOf_in tab x1 x2 x3 (((h.push (.cells 45 6 [.int .i64 0, .string ⟨#[]⟩, .string ⟨#[]⟩, .int .u64 0, .int .i64 0, .int .i64 0])).push (.cells 45 6 [.int .i64 0, .string ⟨#[]⟩, .string ⟨#[]⟩, .int .u64 0, .int .i64 0, .int .i64 0])).put (h.next + 1) (.cells 45 6 [.int .i64 (o.toNat : Nat), .string ⟨#[]⟩, .string ⟨#[]⟩, .int .u64 0, .int .i64 0, .int .i64 0])) (by rw [H.next_put, H.next_push, H.next_push]; omega) _ r hk'
  have eA : ((((h.push (.cells 45 6 [.int .i64 0, .string ⟨#[]⟩, .string ⟨#[]⟩, .int .u64 0, .int .i64 0, .int .i64 0])).push (.cells 45 6 [.int .i64 0, .string ⟨#[]⟩, .string ⟨#[]⟩, .int .u64 0, .int .i64 0, .int .i64 0])).put (h.next + 1) (.cells 45 6 [.int .i64 (o.toNat : Nat), .string ⟨#[]⟩, .string ⟨#[]⟩, .int .u64 0, .int .i64 0, .int .i64 0]))).next = h.next + 1 + 1 := rfl
  rw [eA] at hn1 e1
  simp only [kindL] at e1
  have gA : h1.get h.next = some (.cells 45 6 [.int .i64 0, .string ⟨#[]⟩, .string ⟨#[]⟩, .int .u64 0, .int .i64 0, .int .i64 0]) := by
   rw [k1.get _ (by rw [eA]; omega)]
   simp only [H.get_put, H.get_push, H.next_push, n10, n01, if_false, if_true]
  have gQ : h1.get (h.next + 1) = some (.cells 45 6 [.int .i64 (o.toNat : Nat), .string ⟨#[]⟩, .string ⟨#[]⟩, .int .u64 0, .int .i64 0, .int .i64 0]) := by
   rw [k1.get _ (by rw [eA]; omega)]
   simp only [H.get_put, H.get_push, H.next_push, n10, n01, if_false, if_true]
  have k01 : Kept h h1 := kA.trans k1
  have m1 : ¬ h1.next < tab.ng := by omega
  have m2 : ¬ h1.next = h.next := by omega
  have m3 : ¬ h1.next = h.next + 1 := by omega
  have m4 : ¬ h1.next + 1 = h1.next := by omega
  have m5 : ¬ h1.next = h1.next + 1 := by omega
  have kB : Kept h1 ((h1.push (.cells 98 5 [.string ⟨#[]⟩, .string ⟨#[]⟩, .int .i64 0, .int .i64 0, .nilFunc])).put h1.next (.cells 98 5 [.string ⟨⟨r.name⟩⟩, .string ⟨⟨r.uses⟩⟩, .int .i64 r.pops, .int .i64 r.puts, rightV (h.next + 1 + 1 + 1) r.right])) := ((Kept.refl h1).push _).put _ (Nat.le_refl _)
  obtain ⟨v1, es, bt1⟩ := slice_bt tab (hbb.kept (k01.trans kB)) (some 1) none (by simp) (Nat.le_refl _)
  simp only [Option.map_none, Option.map_some, natV, Option.getD_some, Option.getD_none, List.take_length, List.drop_succ_cons, List.drop_zero] at es bt1
  simp only [List.length_cons, Int.cast_ofNat_Int] at es
  obtain ⟨a2, c2, rfl⟩ := bt1.len
  have hbx : tab.ng ≤ h1.next + 1 := by omega
  have key : ∀ tm hh, (hh = ((((h1.push (.cells 98 5 [.string ⟨#[]⟩, .string ⟨#[]⟩, .int .i64 0, .int .i64 0, .nilFunc])).put h1.next (.cells 98 5 [.string ⟨⟨r.name⟩⟩, .string ⟨⟨r.uses⟩⟩, .int .i64 r.pops, .int .i64 r.puts, rightV (h.next + 1 + 1 + 1) r.right])).push (.cells 126 2 [.slice a2 l.length c2, .int .i64 0])).push (.iter ⟨⟨r.uses⟩⟩ 0)) ∧ tm.get 0 = some (.slice (some ⟨b, off, none⟩) (l.length + 1) c) ∧ tm.get 2 = some (.pointer (some ⟨h.next, 0, none⟩)) ∧ tm.get 5 = some (.pointer (some ⟨h.next + 1, 0, none⟩)) ∧ tm.get 8 = some (.pointer (some ⟨h1.next + 1, 0, none⟩)) ∧ tm.get 32 = some (.pointer (some ⟨h1.next + 1 + 1, 0, none⟩))) →
    ∃ x s', exR (EV tab) dcLoop ⟨false, 60, tm, hh⟩ = some (x, s') ∧ (x = .exit 0 ∧ ∃ tm' h' v', s' = ⟨false, 60, tm', h'⟩ ∧ tm'.get 0 = some (.slice (some ⟨b, off, none⟩) (l.length + 1) c) ∧ tm'.get 2 = some (.pointer (some ⟨h.next, 0, none⟩)) ∧ tm'.get 5 = some (.pointer (some ⟨h.next + 1, 0, none⟩)) ∧ tm'.get 8 = some (.pointer (some ⟨h1.next + 1, 0, none⟩)) ∧
     RDp tab h' (h1.next + 1) v' (foldI r.uses ({ insZ with op := o.toNat }, (l, 0))).2.2 ∧ BT tab h' v' (foldI r.uses ({ insZ with op := o.toNat }, (l, 0))).2.1 ∧ h'.get (h.next + 1) = some (.cells 45 6 (insC (foldI r.uses ({ insZ with op := o.toNat }, (l, 0))).1)) ∧ h'.get h.next = some (.cells 45 6 [.int .i64 0, .string ⟨#[]⟩, .string ⟨#[]⟩, .int .u64 0, .int .i64 0, .int .i64 0]) ∧ Kept h h' ∧ h1.next + 1 < h'.next ∧
     (foldI r.uses ({ insZ with op := o.toNat }, (l, 0))).2.1.length ≤ l.length) := fun tm hh q => by
   obtain ⟨rfl, p0, p2, p5, p8, p32⟩ := q
   have kC : Kept h1 ((((h1.push (.cells 98 5 [.string ⟨#[]⟩, .string ⟨#[]⟩, .int .i64 0, .int .i64 0, .nilFunc])).put h1.next (.cells 98 5 [.string ⟨⟨r.name⟩⟩, .string ⟨⟨r.uses⟩⟩, .int .i64 r.pops, .int .i64 r.puts, rightV (h.next + 1 + 1 + 1) r.right])).push (.cells 126 2 [.slice a2 l.length c2, .int .i64 0])).push (.iter ⟨⟨r.uses⟩⟩ 0)) := (kB.push _).push _
   have kD := k01.trans kC
   have hnx : (((((h1.push (.cells 98 5 [.string ⟨#[]⟩, .string ⟨#[]⟩, .int .i64 0, .int .i64 0, .nilFunc])).put h1.next (.cells 98 5 [.string ⟨⟨r.name⟩⟩, .string ⟨⟨r.uses⟩⟩, .int .i64 r.pops, .int .i64 r.puts, rightV (h.next + 1 + 1 + 1) r.right])).push (.cells 126 2 [.slice a2 l.length c2, .int .i64 0])).push (.iter ⟨⟨r.uses⟩⟩ 0))).next = h1.next + 3 := rfl
   obtain ⟨tm', h', v', y1, y2, y3, y4, y5, y6, y7, y8, y9, y10⟩ := dc_loop tab rd (h1.next + 1) (h.next + 1) (h1.next + 1 + 1) (by omega) (by omega) (by omega) ⟨by omega, by omega⟩ r.uses (fun c hc => by have := hu.2 c hc; simpa using this) ha _ _ r.uses.length 0 tm ((((h1.push (.cells 98 5 [.string ⟨#[]⟩, .string ⟨#[]⟩, .int .i64 0, .int .i64 0, .nilFunc])).put h1.next (.cells 98 5 [.string ⟨⟨r.name⟩⟩, .string ⟨⟨r.uses⟩⟩, .int .i64 r.pops, .int .i64 r.puts, rightV (h.next + 1 + 1 + 1) r.right])).push (.cells 126 2 [.slice a2 l.length c2, .int .i64 0])).push (.iter ⟨⟨r.uses⟩⟩ 0)) (.slice a2 l.length c2) { insZ with op := o.toNat } l 0 (by omega) p0 p2 p5 p8 p32
    (by rw [hnx]; omega) (by
     have e : ((h1.push (.cells 98 5 [.string ⟨#[]⟩, .string ⟨#[]⟩, .int .i64 0, .int .i64 0, .nilFunc])).put h1.next (.cells 98 5 [.string ⟨⟨r.name⟩⟩, .string ⟨⟨r.uses⟩⟩, .int .i64 r.pops, .int .i64 r.puts, rightV (h.next + 1 + 1 + 1) r.right])).next = h1.next + 1 := rfl
     simp only [H.get_push, H.next_push, e, if_true]) (by rw [hnx]; omega) (by rw [hnx]; omega) ⟨hbx, by rw [hnx]; omega, by
     have e : ((h1.push (.cells 98 5 [.string ⟨#[]⟩, .string ⟨#[]⟩, .int .i64 0, .int .i64 0, .nilFunc])).put h1.next (.cells 98 5 [.string ⟨⟨r.name⟩⟩, .string ⟨⟨r.uses⟩⟩, .int .i64 r.pops, .int .i64 r.puts, rightV (h.next + 1 + 1 + 1) r.right])).next = h1.next + 1 := rfl
     have e2 : ¬ h1.next + 1 + 1 = h1.next + 1 := by omega
     simp only [H.get_push, H.next_push, e, if_true, e2, if_false]⟩ (bt1.kept (((Kept.refl _).push _).push _)) (by omega) (by rw [kC.get _ (by omega)]; exact gQ)
   rw [List.drop_zero] at y6 y7 y8 y10
   refine ⟨_, _, y1, rfl, tm', h', v', rfl, y2, y3, y4, y5, y6, y7, y8, ?_, y9.kept kD (by simp; omega), by have := y9.le; omega, y10⟩
   rw [y9.get _ (by rw [hnx]; omega) (by simp; omega), kC.get _ (by omega)]; exact gA
  dsimp only
  generalize hf : foldI r.uses ({ insZ with op := o.toNat }, (l, 0)) = s at key ⊢
  obtain ⟨x, l', e'⟩ := s
  simp only at key ⊢
  generalize he : callR _ _ _ _ = y
  rw [enter27 _ _ _ (x0 _) rfl] at he
  simp only [sS, sevalprocAttr, r27_0, r27_1, r27_2, r27_3, r27_5, r27_6, tT, sN, sO, isub1, isub6, ksub, rdsub0, rdsub1, ng_eq, tabL_ng, hnn, hnn1, n01, n10, nb0, nb1, hs, bi, hlen0, Int.le_refl, Int.toNat_zero, e1, m1, m2, m3, m4, m5, hor, oSlice, optO, oRange, es, op_nil] at he
  obtain ⟨xx, ss, ⟨rfl, tm', h', v', rfl, t0, t2, t5, t8, r1, b1, gq, ga, k2, hlt2, hll⟩, he⟩ := use_run key (fun o => finish (EV tab) [ResultVar.cell 2 45, ResultVar.tmp 3, ResultVar.tmp 4] (andThen (unblock 0 o) (exR (EV tab) (.seq (.seq (Rg 27 10) (.seq (Rg 27 11) (.cond (Operand.tmp 48) (.seq (Rg 27 12) .ret) .skip))) (.seq (Rg 27 13) .ret))))) he (by
   refine ⟨rfl, ?_, ?_, ?_, ?_, ?_⟩ <;> simp only [Tr.get_set, Nat.reduceEqDiff, ↓reduceIte, H.next_push, H.next_put])
  obtain ⟨xo, xt, xu, xn, xi, xs⟩ := x
  have rs1 := r1.s1
  have rs0 := r1.s0
  obtain ⟨p17, plt, pg⟩ := r1
  have hh17 : tab.ng ≤ h'.next := by have := k2.le; omega
  have np : ¬ h1.next + 1 < tab.ng := by omega
  have ec := ck xo xt xu (xn : Nat) xi xs h' (by omega)
  have ef := fi (h'.push (.cells 26 1 [.int .i64 e', .int .i64 (checkI xo xt xu (xn : Nat) xi xs)])) h'.next 5 2 [e', checkI xo xt xu (xn : Nat) xi xs] hh17 (H.get_push_self _ _) rfl (by decide)
  have f1 : firstI [e', checkI xo xt xu (xn : Nat) xi xs] = if e' = 0 then checkI xo xt xu (xn : Nat) xi xs else e' := by
   simp only [firstI]
   split
   ·split
    ·rename_i q; exact q.symm
    ·rfl
   ·rfl
  rw [f1] at ef
  have hv := insL_veq xo xt xu (xn : Nat) xi xs
  have hck : chkI ⟨xo, xt, xu, xn, xi, xs⟩ = checkI xo xt xu (xn : Nat) xi xs := rfl
  rw [hck]
  simp only [insV, insL] at ec hv
  simp only [insC, insL] at gq
  have hx6 : subD (EV tab) h' (h.next + 1) 0 6 = some [.int .i64 xo, .string ⟨⟨xt⟩⟩, .string ⟨⟨xu⟩⟩, .int .u64 (xn : Nat), .int .i64 xi, .int .i64 xs] := by
   unfold subD
   rw [ng_eq, if_neg hnn1, gq]; rfl
  have a1 : ¬ h'.next = h.next := by have := k2.le; omega
  have a2' : ¬ h'.next = h.next + 1 := by omega
  have a3 : ¬ h'.next = h1.next + 1 := by omega
  have a4 : ¬ h1.next + 1 = h.next := by omega
  have a6 : ¬ h.next = h1.next + 1 := by omega
  have a7 : ¬ h.next = h'.next := by omega
  have kP : ∀ o1 o2, Kept h ((h'.push o1).put h.next o2) := fun o1 o2 => ((k2.push o1).put o2 (Nat.le_refl _))
  by_cases q1 : (if e' = 0 then checkI xo xt xu (xn : Nat) xi xs else e') = 0
  ·have q2 : e' = 0 := by
    by_cases q : e' = 0
    ·exact q
    ·rw [if_neg q] at q1; exact q1
   have q3 : checkI xo xt xu (xn : Nat) xi xs = 0 := by rw [if_pos q2] at q1; exact q1
   have z : ((if e' = 0 then checkI xo xt xu (xn : Nat) xi xs else e') != 0) = false := by rw [q1]; rfl
   obtain ⟨a5, c5, rfl⟩ := b1.len
   have s1 : iSub .i64 ((l.length + 1 : Nat) : Int) ((l'.length : Nat) : Int) = some (.int .i64 ((l.length + 1 - l'.length : Nat) : Int)) := by
    unfold iSub; rw [IntWalk.i64_in _ (by omega)]; congr 2; omega
   simp only [sS, sevalprocAttr, fF27, tT, sN, sO, isub1, isub6, rdsub0, rdsub1, ng_eq, tabL_ng, hnn, hnn1, np, t0, t2, t5, t8, pg, gq, ga, hx6, rs1, rs0, ec, ef, hv, iNeq, z, a1, a2', a3, a4, a6, a7, n01, n10, readCall_len, s1, op_nil] at he
   subst he
   rw [if_neg (fun h => h q2), if_neg (fun h => h q3)]
   exact ⟨_, rfl, kP _ _⟩
  ·have z : ((if e' = 0 then checkI xo xt xu (xn : Nat) xi xs else e') != 0) = true := by simpa using q1
   simp only [sS, sevalprocAttr, fF27, tT, sN, sO, isub1, isub6, rdsub0, rdsub1, ng_eq, tabL_ng, hnn, hnn1, np, t0, t2, t5, t8, pg, gq, ga, hx6, rs1, rs0, ec, ef, hv, iNeq, z, a1, a2', a3, a4, a6, a7, n01, n10, op_nil] at he
   subst he
   by_cases q2 : e' = 0
   ·rw [if_pos q2] at q1 ⊢
    rw [if_neg (fun h => h q2), if_pos q1]
    exact ⟨_, rfl, kP _ _⟩
   ·rw [if_neg q2, if_pos q2]
    exact ⟨_, rfl, kP _ _⟩
def decL (b : List UInt8) : List Ins × Nat × Int := if 65536 < b.length then ([], 0, 4) else decF chkI b.length b 0 []
abbrev DecP (tab : Tab) : Prop := ∀ (h : H) (v : Value) (o : UInt8) (l : List UInt8), tab.ng ≤ h.next → BT tab h v (o :: l) → l.length < 999999 →
 ∃ h', callR (EV tab) 27 [v] h = some (.tuple ⟨[.agg ⟨insC (decG chkI (o :: l)).1⟩, .int .i64 ((decG chkI (o :: l)).2.1 : Nat), .int .i64 (decG chkI (o :: l)).2.2]⟩, h') ∧ Kept h h'
noncomputable def deLoop : Code := (.loop (.seq (.seq (Rg 9 5) (.cond (Operand.tmp 16) .skip (Code.exit 0))) (.block 1 (.seq (Rg 9 6) (.seq (.seq (Rg 9 7) (.cond (Operand.tmp 26) (.seq (Rg 9 8) .ret) .skip)) (.seq (Rg 9 9) (Rg 9 10)))))))
theorem de_loop (tab : Tab) (hD : DecP tab) (h0 : H) (hng : tab.ng ≤ h0.next) (v : Value) (b : List UInt8) (hb : BT tab h0 v b) (hl : b.length < 100000) :
  ∀ (k i : Nat) (tm : Tr Value) (h : H) (vo : Value) (acc : List Ins), b.length ≤ i + k → i ≤ b.length → acc.length ≤ i → tm.get 0 = some v → tm.get 5 = some vo → tm.get 6 = some (.int .i64 i) → Row h0 h 45 6 vo acc.length (cellsI acc) → Kept h0 h →
  ∃ tm' h', Kept h0 h' ∧ ((exR (EV tab) deLoop ⟨false, 37, tm, h⟩ = some (.exit 0, ⟨false, 37, tm', h'⟩) ∧ ∃ vo' l, tm'.get 5 = some vo' ∧ Row h0 h' 45 6 vo' l.length (cellsI l) ∧ decF chkI k b i acc = (l, 0, 0)) ∨
   (exR (EV tab) deLoop ⟨false, 37, tm, h⟩ = some (.ret, ⟨false, 37, tm', h'⟩) ∧ ∃ (j : Nat) (e : Int), tm'.get 2 = some (.slice none 0 0) ∧ tm'.get 3 = some (.int .i64 j) ∧ tm'.get 4 = some (.int .i64 e) ∧ decF chkI k b i acc = ([], j, e))) := by
 obtain ⟨a0, c0, rfl⟩ := hb.len
 have done : ∀ (i : Nat) (tm : Tr Value) (h : H) (vo : Value) (acc : List Ins) (k : Nat), b.length ≤ i → tm.get 0 = some (.slice a0 b.length c0) → tm.get 5 = some vo → tm.get 6 = some (.int .i64 i) → Row h0 h 45 6 vo acc.length (cellsI acc) → Kept h0 h →
   ∃ tm', exR (EV tab) deLoop ⟨false, 37, tm, h⟩ = some (.exit 0, ⟨false, 37, tm', h⟩) ∧ tm'.get 5 = some vo ∧ decF chkI k b i acc = (acc, 0, 0) := fun i tm h vo acc k hi t0 t5 t6 hr hkp => by
  have hlt : decide (i < b.length) = false := decide_eq_false (by omega)
  generalize he : exR (EV tab) deLoop ⟨false, 37, tm, h⟩ = r
  rw [deLoop, exR_loop] at he
  simp only [sS, sevalprocAttr, fF9, tT, t0, t6, iLss, Int.ofNat_lt, hlt] at he
  subst he
  refine ⟨_, rfl, by simp only [Tr.get_set, Nat.reduceEqDiff, ↓reduceIte, t5], ?_⟩
  cases k with
  | zero => rfl
  | succ k => rw [decF, if_pos hi]
 intro k
 induction k with
 | zero =>
  intro i tm h vo acc hk hi ha t0 t5 t6 hr hkp
  obtain ⟨tm', e, x5, xd⟩ := done i tm h vo acc 0 (by omega) t0 t5 t6 hr hkp
  exact ⟨tm', h, hkp, .inl ⟨e, vo, acc, x5, hr, xd⟩⟩
 | succ k ih =>
  intro i tm h vo acc hk hi ha t0 t5 t6 hr hkp
  by_cases q : b.length ≤ i
  ·obtain ⟨tm', e, x5, xd⟩ := done i tm h vo acc (k + 1) q t0 t5 t6 hr hkp
   exact ⟨tm', h, hkp, .inl ⟨e, vo, acc, x5, hr, xd⟩⟩
  ·have hlt : i < b.length := by omega
   have hhn : tab.ng ≤ h.next := Nat.le_trans hng hkp.le
   have hd0 : b.drop i = b[i] :: b.drop (i + 1) := (List.getElem_cons_drop hlt).symm
   obtain ⟨v1, es, bt1⟩ := slice_bt tab (hb.kept hkp) (some i) none hi (Nat.le_refl _)
   simp only [Option.map_none, Option.map_some, natV, Option.getD_some, Option.getD_none, List.take_length] at es bt1
   rw [hd0] at bt1
   obtain ⟨h1, ed, k1⟩ := hD h v1 b[i] (b.drop (i + 1)) hhn bt1 (by rw [List.length_drop]; omega)
   have hdec : decF chkI (k + 1) b i acc = if (decG chkI (b[i] :: b.drop (i + 1))).2.2 ≠ 0 then ([], i, (decG chkI (b[i] :: b.drop (i + 1))).2.2) else decF chkI k b (i + (decG chkI (b[i] :: b.drop (i + 1))).2.1) (acc ++ [(decG chkI (b[i] :: b.drop (i + 1))).1]) := by
    rw [decF, if_neg q, hd0]
   rw [hdec]
   generalize hg : decG chkI (b[i] :: b.drop (i + 1)) = s at ed
   obtain ⟨x, n, e⟩ := s
   have hx : insC x = [.int .i64 x.op, .string ⟨⟨x.t⟩⟩, .string ⟨⟨x.u⟩⟩, .int .u64 (x.num : Nat), .int .i64 x.imm, .int .i64 x.size] := rfl
   simp only [hx] at ed
   have k2 : Kept h0 h1 := hkp.trans k1
   have hn1 : tab.ng ≤ h1.next := Nat.le_trans hng k2.le
   have m1 : ¬ h1.next < tab.ng := by omega
   have k3 : Kept h0 ((h1.push (.cells 45 6 [.int .i64 0, .string ⟨#[]⟩, .string ⟨#[]⟩, .int .u64 0, .int .i64 0, .int .i64 0])).put h1.next (.cells 45 6 [.int .i64 x.op, .string ⟨⟨x.t⟩⟩, .string ⟨⟨x.u⟩⟩, .int .u64 (x.num : Nat), .int .i64 x.imm, .int .i64 x.size])) := (k2.push _).put _ k2.le
   by_cases q2 : e = 0
   ·subst q2
    have z : ((0 : Int) != 0) = false := rfl
    obtain ⟨-, -, -, c4, c5⟩ := decG_inv hg
    rw [← hd0, List.length_drop] at c5
    have s1 : iAdd .i64 (i : Int) (n : Int) = some (.int .i64 ((i + n : Nat) : Int)) := by unfold iAdd; rw [IntWalk.i64_in _ (by omega)]; rfl
    have hr3 : Row h0 (((h1.push (.cells 45 6 [.int .i64 0, .string ⟨#[]⟩, .string ⟨#[]⟩, .int .u64 0, .int .i64 0, .int .i64 0])).put h1.next (.cells 45 6 [.int .i64 x.op, .string ⟨⟨x.t⟩⟩, .string ⟨⟨x.u⟩⟩, .int .u64 (x.num : Nat), .int .i64 x.imm, .int .i64 x.size])).push (.cells 45 6 (insC x))) 45 6 vo acc.length (cellsI acc) := by
     rcases hr.kept k1 with r | ⟨qb, r1, r2, r3, r4, r5⟩
     ·exact .inl r
     ·refine .inr ⟨qb, r1, r2, by simp only [H.next_push, H.next_put]; omega, ?_, r5⟩
      rw [H.get_push_lt _ _ (by simp only [H.next_push, H.next_put]; omega), H.get_put, if_neg (by omega), H.get_push_lt _ _ r3]; exact r4
    obtain ⟨v2, h2, ea, rr, kk⟩ := append_row (E := EV tab) (t := 29) (ti29 tab) rfl (ti45 tab) rfl (by rw [bt_eq]; show 45 ≠ 94; decide) hng hr3 (k3.push _)
     (new_ins tab 45 (((h1.push (.cells 45 6 [.int .i64 0, .string ⟨#[]⟩, .string ⟨#[]⟩, .int .u64 0, .int .i64 0, .int .i64 0])).put h1.next (.cells 45 6 [.int .i64 x.op, .string ⟨⟨x.t⟩⟩, .string ⟨⟨x.u⟩⟩, .int .u64 (x.num : Nat), .int .i64 x.imm, .int .i64 x.size])).push (.cells 45 6 (insC x))) x (h1.next + 1) 3 (by omega) (by simp only [H.get_push, H.next_put, H.next_push, if_true]) _) (insC_one _) (by decide) (by omega) rfl
    have ec : cellsI acc ++ insC x = cellsI (acc ++ [x]) := by simp [cellsI]
    rw [ec] at rr
    simp only [hx] at ea
    obtain ⟨tm1, e1, b0, b5, b6⟩ : ∃ tm1, exR (EV tab) deLoop ⟨false, 37, tm, h⟩ = exR (EV tab) deLoop ⟨false, 37, tm1, h2⟩ ∧ tm1.get 0 = some (.slice a0 b.length c0) ∧ tm1.get 5 = some v2 ∧ tm1.get 6 = some (.int .i64 ((i + n : Nat) : Int)) := by
     generalize he : exR (EV tab) deLoop ⟨false, 37, tm, h⟩ = r
     rw [deLoop, exR_loop] at he
     simp only [sS, sevalprocAttr, fF9, tT, sN, sO, isub6, ng_eq, tabL_ng, t0, t5, t6, iLss, Int.ofNat_lt, hlt, decide_true, oSlice, optO, es, ed, m1, iNeq, z, ea, s1] at he
     subst he
     refine ⟨_, rfl, ?_, ?_, ?_⟩ <;> simp only [Tr.get_set, Nat.reduceEqDiff, ↓reduceIte, t0]
    obtain ⟨tm', h', y1, y2⟩ := ih (i + n) tm1 h2 v2 (acc ++ [x]) (by omega) (by omega) (by simp; omega) b0 b5 b6 (by rw [List.length_append]; exact rr) kk
    rw [if_neg (by simp), e1]
    exact ⟨tm', h', y1, y2⟩
   ·have z : (e != 0) = true := by simpa using q2
    generalize he : exR (EV tab) deLoop ⟨false, 37, tm, h⟩ = r
    rw [deLoop, exR_loop] at he
    simp only [sS, sevalprocAttr, fF9, tT, sN, sO, isub6, ng_eq, tabL_ng, t0, t5, t6, iLss, Int.ofNat_lt, hlt, decide_true, oSlice, optO, es, ed, m1, iNeq, z] at he
    subst he
    rw [if_pos q2]
    refine ⟨_, _, k3, .inr ⟨rfl, i, e, ?_, ?_, ?_, rfl⟩⟩ <;> simp only [Tr.get_set, Nat.reduceEqDiff, ↓reduceIte]
theorem Decode_run (tab : Tab) (hx : ∀ l, callExt (EV tab) 9 l = none) (hD : DecP tab) (h : H) (hng : tab.ng ≤ h.next) (v : Value) (b : List UInt8) (hb : BT tab h v b) (hl : b.length < 100000) :
  ∃ v' h', callR (EV tab) 9 [v] h = some (.tuple ⟨[v', .int .i64 ((decL b).2.1 : Nat), .int .i64 (decL b).2.2]⟩, h') ∧ Row h h' 45 6 v' (decL b).1.length (cellsI (decL b).1) ∧ Kept h h' := by
 unfold decL
 by_cases q : 65536 < b.length
 ·have d1 : decide ((65536 : Int) < (b.length : Nat)) = true := decide_eq_true (by omega)
  obtain ⟨a0, c0, rfl⟩ := hb.len
  rw [if_pos q]
  generalize he : callR _ _ _ _ = r
  rw [enter9 _ _ _ (hx _) rfl] at he
  simp only [sS, sevalprocAttr, fF9, tT, iGtr, gt_iff_lt, d1] at he
  subst he
  exact ⟨_, _, rfl, Row.nil _ _ _ _, Kept.refl _⟩
 ·have d1 : decide ((65536 : Int) < (b.length : Nat)) = false := decide_eq_false (by omega)
  have key : ∀ tm h1, (h1 = h ∧ tm.get 0 = some v ∧ tm.get 5 = some (.slice none 0 0) ∧ tm.get 6 = some (.int .i64 0)) → ∃ x s', exR (EV tab) deLoop ⟨false, 37, tm, h1⟩ = some (x, s') ∧
    (∃ tm' h', Kept h h' ∧ s' = ⟨false, 37, tm', h'⟩ ∧ ((x = .exit 0 ∧ ∃ vo' l, tm'.get 5 = some vo' ∧ Row h h' 45 6 vo' l.length (cellsI l) ∧ decF chkI b.length b 0 [] = (l, 0, 0)) ∨
     (x = .ret ∧ ∃ (j : Nat) (e : Int), tm'.get 2 = some (.slice none 0 0) ∧ tm'.get 3 = some (.int .i64 j) ∧ tm'.get 4 = some (.int .i64 e) ∧ decF chkI b.length b 0 [] = ([], j, e)))) := fun tm h1 p => by
   obtain ⟨rfl, p0, p5, p6⟩ := p
   obtain ⟨tm', h', y1, ⟨y2, y3⟩ | ⟨y2, y3⟩⟩ := de_loop tab hD h1 hng v b hb hl b.length 0 tm h1 (.slice none 0 0) [] (by omega) (by omega) (by simp) p0 p5 p6 (Row.nil _ _ _ _) (Kept.refl h1)
   ·exact ⟨_, _, y2, tm', h', y1, rfl, .inl ⟨rfl, y3⟩⟩
   ·exact ⟨_, _, y2, tm', h', y1, rfl, .inr ⟨rfl, y3⟩⟩
  obtain ⟨a0, c0, rfl⟩ := hb.len
  rw [if_neg q]
  generalize he : callR _ _ _ _ = r
  rw [enter9 _ _ _ (hx _) rfl] at he
  simp only [sS, sevalprocAttr, r9_0, r9_1, r9_3, r9_4, tT, iGtr, gt_iff_lt, d1] at he
  obtain ⟨x1, s1, ⟨tm', h', y1, rfl, ⟨rfl, vo, l, y5, y6, y7⟩ | ⟨rfl, j, e, y2, y3, y4, y7⟩⟩, he⟩ := use_run key (fun o => finish (EV tab) [ResultVar.tmp 2, ResultVar.tmp 3, ResultVar.tmp 4] (andThen (unblock 0 o) (exR (EV tab) (.seq (Rg 9 11) .ret)))) he (by
   refine ⟨rfl, ?_, ?_, ?_⟩ <;> simp only [Tr.get_set, Nat.reduceEqDiff, ↓reduceIte])
  ·simp only [sS, sevalprocAttr, fF9, tT, y5] at he
   subst he
   rw [y7]
   exact ⟨vo, h', rfl, y6, y1⟩
  ·simp only [sS, sevalprocAttr, fF9, tT, y2, y3, y4] at he
   subst he
   rw [y7]
   exact ⟨_, h', rfl, Row.nil _ _ _ _, y1⟩
theorem kindT_flds : kindT.all (fun r => (decide (0 ∈ r.uses.map fun c => fld c.toNat) == hasB r.uses [84]) && (decide (1 ∈ r.uses.map fun c => fld c.toNat) == hasB r.uses [85]) && (decide (2 ∈ r.uses.map fun c => fld c.toNat) == hasB r.uses [110, 119, 76]) &&
  (decide (3 ∈ r.uses.map fun c => fld c.toNat) == hasB r.uses [115, 100, 80]) && (decide (4 ∈ r.uses.map fun c => fld c.toNat) == hasB r.uses [70])) = true := by decide +kernel
theorem wrong_no {s : List UInt8} {b : Bool} (h : wrongB s b = false) : (codeT s).2 = 0 ∧ (b = false → s = []) := by
 unfold wrongB at h
 rw [Bool.or_eq_false_iff] at h
 refine ⟨by simpa using h.1, fun hb => ?_⟩
 have h2 := h.2
 rw [hb] at h2
 simpa using h2
theorem chk_sound : Sound chkI where
 ok x hx hn := by
  obtain ⟨k, r, e1, e2, -, w1, w2, sp, -, -, hi, hs, hp⟩ := check_ok hx (by omega)
  obtain ⟨t1, t2⟩ := wrong_no w1
  obtain ⟨u1, u2⟩ := wrong_no w2
  have hf := List.all_eq_true.1 kindT_flds r (List.mem_of_getElem? e2)
  simp only [Bool.and_eq_true, beq_iff_eq] at hf
  obtain ⟨⟨⟨⟨f0, f1⟩, f2⟩, f3⟩, f4⟩ := hf
  unfold spareB at sp
  simp only [Bool.or_eq_false_iff, Bool.and_eq_false_iff, Bool.not_eq_false', bne_eq_false_iff_eq] at sp
  obtain ⟨⟨s1, s2⟩, s3⟩ := sp
  refine ⟨⟨t1, u1, hn, hi, hs⟩, k, r, e1, e2, hp, fun q => t2 (by rw [← f0]; exact decide_eq_false q), fun q => u2 (by rw [← f1]; exact decide_eq_false q), fun q => ?_, fun q => ?_, fun q => ?_⟩
  ·rw [← f2] at s1
   rcases s1 with s1 | s1
   ·omega
   ·exact absurd (of_decide_eq_true s1) q
  ·rw [← f3] at s2
   rcases s2 with s2 | s2
   ·exact s2
   ·exact absurd (of_decide_eq_true s2) q
  ·rw [← f4] at s3
   rcases s3 with s3 | s3
   ·exact s3
   ·exact absurd (of_decide_eq_true s3) q
theorem firstI_all : ∀ (l : List Int), (∀ x ∈ l, x = 0) → firstI l = 0
 | [], _ => rfl
 | x :: l, h => by
  rw [firstI, if_pos (h x (List.mem_cons_self ..))]
  exact firstI_all l fun y hy => h y (List.mem_cons_of_mem _ hy)
theorem allI_of {l : List Ins} (hl : l.length ≤ 4000) (h : ∀ x ∈ l, chkI x = 0) : allI l = 0 := by
 unfold allI
 rw [if_neg (by omega)]
 exact firstI_all _ fun y hy => by
  obtain ⟨x, hx, rfl⟩ := List.mem_map.1 hy
  exact h x hx
theorem enc_len : ∀ (l : List Ins), l.length ≤ (encX l).length
 | [] => Nat.le_refl _
 | x :: l => by
  have := enc_len l
  have h2 := bytX_pos x
  rw [encX_cons, List.length_append, List.length_cons]
  omega
theorem enc_le (l : List Ins) (h : ∀ x ∈ l, chkI x = 0 ∧ x.num < 18446744073709551616) : (encL l).length ≤ 100 * l.length := by
 have e : (encL l).length = lenS (l.map bytesX) := by
  show ((l.map bytesX).flatten).length = _
  rw [lenS_flat]
 rw [e]
 exact lenS_le l fun x hx => (bytesX_len x (h x hx).1 (h x hx).2).1
theorem BS.len {tab : Tab} {h : H} {v : Value} {l : List UInt8} (i : BS tab h v l) : ∃ a c, v = .slice a l.length c := by
 rcases i with ⟨rfl, rfl⟩ | ⟨b, o, c, rfl, _⟩
 ·exact ⟨_, _, rfl⟩
 ·exact ⟨_, _, rfl⟩
theorem short_le {l : List Ins} (h : shortB l = true) : l.length ≤ 200 ∨ l.length = 4001 := by
 unfold shortB at h
 simp only [Bool.and_eq_true, Bool.not_eq_true', Bool.and_eq_false_iff, decide_eq_false_iff_not] at h
 rcases h.1 with q | q
 ·exact .inl (by omega)
 ·exact .inr (by omega)
end Go.D
