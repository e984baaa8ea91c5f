/- The functions of the law, one after the other: what a run of D answers. -/
import Derived.Test.YtfhdhnbnnlpdfaaGreatDoorWh
import Derived.Test.YtfhdhnbnnlpdfaaGreatDoorFull
import Derived.Test.YtfhdhnbnnlpdfaaGreatDoorW0
import Derived.Laws.RangeString
import Derived.Laws.RangeAny
import Derived.Laws.StructEq
namespace Go.D
open Go.Proofs
set_option maxRecDepth 100000
set_option linter.unusedVariables false
set_option linter.unusedSimpArgs false
def RQ (tab : Tab) (h : H) (p : Nat) (v : Value) (at_ : Nat) (e : Int) : Prop := tab.ng ≤ p ∧ p < h.next ∧ h.get p = some (.cells 131 3 [v, .int .i64 at_, .int .i64 e])
theorem takeq_run (tab : Tab) (x1 : ∀ l, callExt (EV tab) 52 l = none) (h : H) (hng : tab.ng ≤ h.next) (p : Nat) (v : Value) (l : List UInt8) (a0 : Nat) (e : Int) (n : Nat) (hn : n ≤ 8) (hr : RQ tab h p v a0 e) (hb : BT tab h v l) (ha : a0 ≤ l.length) (hl : l.length < 1000000) :
  ∃ w h' a1, callR (EV tab) 52 [.pointer (some ⟨p, 0, none⟩), .int .i64 n] h = some (w, h') ∧ BT tab h' w (takeR n (l.drop a0, e)).1 ∧ RQ tab h' p v a1 (takeR n (l.drop a0, e)).2.2 ∧ l.drop a1 = (takeR n (l.drop a0, e)).2.1 ∧ a0 ≤ a1 ∧ a1 ≤ l.length ∧ KeptX p h h' := by
 obtain ⟨r1, r2, r3⟩ := hr
 have hnp : ¬ p < tab.ng := by omega
 have hpc : NB h p := nb_cells r3 (by decide)
 have hnn : ¬ h.next < tab.ng := by omega
 have hpn : ¬ h.next = p := by omega
 have hld : (l.drop a0).length = l.length - a0 := List.length_drop
 have hs : iSub .i64 (l.length : Int) (a0 : Int) = some (.int .i64 ((l.length - a0 : Nat) : Int)) := by
  unfold iSub
  rw [IntWalk.i64_in _ (by omega)]
  congr 2; omega
 have hm : (0 : Int) ≤ n ∧ (n : Int) ≤ n ∧ (n : Int) ≤ 1000000 ∧ 1 ≤ 1000 := by omega
 have hm2 : Nat.ble n 64 = true := Nat.ble_eq_true_of_le (by omega)
 have mk : makeD 5 ⟨.int .u8, 1, 1, [.int .u8 0]⟩ n n = some (.cells 5 1 (bs (List.replicate n 0)), rowTo n (2 * n + 1)) := by
  unfold makeD
  simp only [if_pos hm, Int.toNat_natCast, hm2, if_true, repl_u8]
 by_cases q : e ≠ 0 ∨ (l.drop a0).length < n
 ·have t1 : takeR n (l.drop a0, e) = (List.replicate n 0, (l.drop a0, if e = 0 then 39 else e)) := by unfold takeR; rw [if_pos q]
  rw [t1]
  obtain ⟨a, c, rfl⟩ := hb.len
  by_cases q0 : e = 0
  ·subst q0
   have hlt : decide (((l.length - a0 : Nat) : Int) < (n : Int)) = true := decide_eq_true (by have := q.resolve_left (by simp); omega)
   have h1 : ((0 : Int) == 0) = true := rfl
   have h2 : ((39 : Int) != 0) = true := rfl
   generalize he : callR _ _ _ _ = x
   rw [enter52 _ _ _ (x1 _) rfl] at he
   simp only [sS, sevalprocAttr, fF52, tT, sN, sM, ng_eq, tabL_ng, hnp, hnn, hpn, r3, iEql, iNeq, iLss, h1, h2, hs, hlt, mk, oMake, veq_slice, op_nil, readCall_len, oLen, lenD, lenOfD] at he
   subst he
   have k : KeptX p h ((h.put p (.cells 131 3 [.slice a l.length c, .int .i64 a0, .int .i64 39])).push (.cells 5 1 (bs (List.replicate n 0)))) := ((KeptX.refl p h).put _).push _
   have hbt2 : BT tab ((h.put p (.cells 131 3 [.slice a l.length c, .int .i64 a0, .int .i64 39])).push (.cells 5 1 (bs (List.replicate n 0)))) (.slice (some ⟨h.next, 0, none⟩) (List.replicate n (0 : UInt8)).length (2 * n + 1)) (List.replicate n 0) :=
    bt_cells (by omega) (by simp only [H.next_push, H.next_put]; omega) (by simp only [H.get_push, H.next_put, if_true]) (.inr (by rw [List.length_replicate]; omega))
   rw [List.length_replicate] at hbt2
   exact ⟨_, _, a0, rfl, hbt2, ⟨r1, Nat.lt_of_lt_of_le r2 k.le, by simp only [H.get_push, H.next_put, H.get_put]; rw [if_neg (by omega), if_pos trivial]; rfl⟩, rfl, Nat.le_refl _, ha, k⟩
  ·have h1 : (e == 0) = false := by rw [beq_eq_false_iff_ne]; exact q0
   have h2 : (e != 0) = true := by simpa using q0
   rw [if_neg q0]
   generalize he : callR _ _ _ _ = x
   rw [enter52 _ _ _ (x1 _) rfl] at he
   simp only [sS, sevalprocAttr, fF52, tT, sN, sM, ng_eq, tabL_ng, hnp, hnn, hpn, r3, iEql, iNeq, iLss, h1, h2, hs, mk, oMake, veq_slice, op_nil, readCall_len, oLen, lenD, lenOfD] at he
   subst he
   have k : KeptX p h (h.push (.cells 5 1 (bs (List.replicate n 0)))) := (KeptX.refl p h).push _
   have hbt2 : BT tab (h.push (.cells 5 1 (bs (List.replicate n 0)))) (.slice (some ⟨h.next, 0, none⟩) (List.replicate n (0 : UInt8)).length (2 * n + 1)) (List.replicate n 0) :=
    bt_cells (by omega) (by simp only [H.next_push]; omega) (by simp only [H.get_push, if_true]) (.inr (by rw [List.length_replicate]; omega))
   rw [List.length_replicate] at hbt2
   exact ⟨_, _, a0, rfl, hbt2, ⟨r1, Nat.lt_of_lt_of_le r2 k.le, by rw [H.get_push_lt _ _ r2]; exact r3⟩, rfl, Nat.le_refl _, ha, k⟩
 ·rw [not_or] at q
  have q0 : e = 0 := Decidable.of_not_not q.1
  subst q0
  have hnl : n ≤ l.length - a0 := by omega
  have t1 : takeR n (l.drop a0, 0) = ((l.drop a0).take n, ((l.drop a0).drop n, 0)) := by unfold takeR; rw [if_neg (by simp; omega)]
  rw [t1]
  have hlt : decide (((l.length - a0 : Nat) : Int) < (n : Int)) = false := decide_eq_false (by omega)
  obtain ⟨w, ew, bw⟩ := slice_bt tab hb (some a0) (some (a0 + n)) (by simp) (by simp; omega)
  simp only [Option.map_some, natV, Option.getD_some] at ew bw
  have h1 : ((0 : Int) == 0) = true := rfl
  have h2 : ((0 : Int) != 0) = false := rfl
  have hadd : iAdd .i64 (a0 : Int) (n : Int) = some (.int .i64 ((a0 + n : Nat) : Int)) := by
   unfold iAdd
   rw [IntWalk.i64_in _ (by omega)]
   rfl
  have hsub : iSub .i64 ((a0 + n : Nat) : Int) (n : Int) = some (.int .i64 ((a0 : Nat) : Int)) := by
   unfold iSub
   rw [IntWalk.i64_in _ (by omega)]
   congr 2; omega
  obtain ⟨a, c, rfl⟩ := hb.len
  have k : KeptX p h (h.put p (.cells 131 3 [.slice a l.length c, .int .i64 ((a0 + n : Nat) : Int), .int .i64 0])) := (KeptX.refl p h).put _
  obtain ⟨w', ew', bw'⟩ := slice_bt tab (hb.keptX k hpc) (some a0) (some (a0 + n)) (by simp) (by simp; omega)
  simp only [Option.map_some, natV, Option.getD_some] at ew' bw'
  obtain ⟨a2, c2, rfl⟩ := bw'.len
  generalize he : callR _ _ _ _ = x
  rw [enter52 _ _ _ (x1 _) rfl] at he
  simp only [sS, sevalprocAttr, fF52, tT, sN, sM, ng_eq, tabL_ng, hnp, r3, iEql, iNeq, iLss, h1, h2, hs, hlt, hadd, hsub, oSlice, optO, ew', veq_slice, op_nil, readCall_len, oLen, lenD, lenOfD] at he
  subst he
  refine ⟨_, _, a0 + n, rfl, ?_, ⟨r1, r2, by rw [H.get_put, if_pos rfl]⟩, by show _ = List.drop n (List.drop a0 l); rw [List.drop_drop], by omega, by omega, k⟩
  have e2 : (l.take (a0 + n)).drop a0 = (l.drop a0).take n := by rw [List.drop_take, Nat.add_sub_cancel_left]
  show BT tab _ _ ((l.drop a0).take n)
  rw [← e2]
  exact bw'
abbrev TakeQ (tab : Tab) : Prop := ∀ (h : H) (p : Nat) (v : Value) (l : List UInt8) (a0 : Nat) (e : Int) (n : Nat), tab.ng ≤ h.next → n ≤ 8 → RQ tab h p v a0 e → BT tab h v l → a0 ≤ l.length → l.length < 1000000 →
 ∃ w h' a1, callR (EV tab) 52 [.pointer (some ⟨p, 0, none⟩), .int .i64 n] h = some (w, h') ∧ BT tab h' w (takeR n (l.drop a0, e)).1 ∧ RQ tab h' p v a1 (takeR n (l.drop a0, e)).2.2 ∧ l.drop a1 = (takeR n (l.drop a0, e)).2.1 ∧ a0 ≤ a1 ∧ a1 ≤ l.length ∧ KeptX p h h'
theorem RQ.s {tab : Tab} {h : H} {p : Nat} {v : Value} {a0 : Nat} {e : Int} (r : RQ tab h p v a0 e) : subD (EV tab) h p 2 1 = some [.int .i64 e] := by
 unfold subD
 rw [ng_eq, if_neg (Nat.not_lt.2 r.1), r.2.2]; rfl
theorem RQ.nb {tab : Tab} {h : H} {p : Nat} {v : Value} {a0 : Nat} {e : Int} (r : RQ tab h p v a0 e) : NB h p := nb_cells r.2.2 (by decide)
theorem takeq1 (tab : Tab) (hT : TakeQ tab) (h : H) (p : Nat) (v : Value) (l : List UInt8) (a0 : Nat) (e : Int) (hng : tab.ng ≤ h.next) (hr : RQ tab h p v a0 e) (hb : BT tab h v l) (ha : a0 ≤ l.length) (hl : l.length < 1000000) :
  ∃ b o c h' a1, callR (EV tab) 52 [.pointer (some ⟨p, 0, none⟩), .int .i64 1] h = some (.slice (some ⟨b, o, none⟩) 1 c, h') ∧ subD (EV tab) h' b o 1 = some [.int .u8 (((takeR 1 (l.drop a0, e)).1.headD 0).toNat : Nat)] ∧
   RQ tab h' p v a1 (takeR 1 (l.drop a0, e)).2.2 ∧ l.drop a1 = (takeR 1 (l.drop a0, e)).2.1 ∧ a0 ≤ a1 ∧ a1 ≤ l.length ∧ KeptX p h h' := by
 obtain ⟨w, h', a1, e1, b1, r1, c1, c2, c3, k1⟩ := hT h p v l a0 e 1 hng (by decide) hr hb ha hl
 have hlen : (takeR 1 (l.drop a0, e)).1.length = 1 := takeR_len 1 _
 rcases b1 with ⟨_, z⟩ | ⟨b, o, c, rfl, m, _⟩
 ·rw [z] at hlen; cases hlen
 ·have hs := m.byte 0 (by omega)
  have hq : ∀ (q : List UInt8) (z : 0 < q.length), q.headD 0 = q[0] := fun q z => by
   cases q with
   | nil => cases z
   | cons a q => rfl
  have hh : (takeR 1 (l.drop a0, e)).1.headD 0 = (takeR 1 (l.drop a0, e)).1[0]'(by omega) := hq _ _
  rw [hlen] at e1
  exact ⟨b, o, c, h', a1, e1, by rw [hh]; exact hs, r1, c1, c2, c3, k1⟩
theorem remq128 (n : Nat) : iRem .u8 (n : Int) 128 = some (.int .u8 ((n % 128 : Nat) : Int)) := by
 unfold iRem
 rw [if_neg (by decide)]
 rfl
theorem mul7 (i : Nat) (hi : i ≤ 9) : iMul .i64 7 (i : Int) = some (.int .i64 ((7 * i : Nat) : Int)) := by
 unfold iMul
 rw [IntWalk.i64_in _ (by omega)]
 rfl
noncomputable def nqLoop : Code := (.loop (.seq (.seq (Rg 49 3) (.cond (Operand.tmp 10) .skip (Code.exit 0))) (.seq (.block 1 (.seq (Rg 49 5) (.seq (.seq (Rg 49 6) (.cond (Operand.tmp 21) (.seq (Rg 49 7) .ret) .skip)) (.seq (.seq (Rg 49 8) (.cond (Operand.tmp 35) (.seq (Rg 49 9) (.seq (Rg 49 10) .ret)) .skip)) (.seq (Rg 49 11) (.seq (Rg 49 12) (.cond (Operand.tmp 48) (.seq (Rg 49 13) .ret) .skip))))))) (Rg 49 4))))
set_option maxHeartbeats 2000000 in
theorem nq_loop (tab : Tab) (hT : TakeQ tab) (p : Nat) (v : Value) (l : List UInt8) (hl : l.length < 1000000) : ∀ (q : List UInt8) (i out a0 : Nat) (tm : Tr Value) (h : H), l.drop a0 = q → a0 ≤ l.length → i ≤ 9 → out < 128 ^ i → tab.ng ≤ h.next → RQ tab h p v a0 0 → BT tab h v l →
  tm.get 0 = some (.pointer (some ⟨p, 0, none⟩)) → tm.get 3 = some (.int .u64 (out : Nat)) → tm.get 4 = some (.int .i64 (i : Nat)) →
  ∃ tm' h' a1, exR (EV tab) nqLoop ⟨false, 50, tm, h⟩ = some (.ret, ⟨false, 50, tm', h'⟩) ∧ tm'.get 2 = some (.int .u64 ((numG q i out).1 : Nat)) ∧ RQ tab h' p v a1 (numG q i out).2.2 ∧ l.drop a1 = (numG q i out).2.1 ∧ a0 ≤ a1 ∧ a1 ≤ l.length ∧ KeptX p h h' := by
 intro q
 induction q with
 | nil =>
  intro i out a0 tm h hd ha hi ho hng hr hb t0 t3 t4
  obtain ⟨b, o, c, h1, a1, e1, hs, r1, c1, c2, c3, k1⟩ := takeq1 tab hT h p v l a0 0 hng hr hb ha hl
  rw [hd] at r1 c1
  have ht : takeR 1 (([] : List UInt8), 0) = ([0], ([], 39)) := rfl
  rw [ht] at r1 c1
  have hnp : ¬ p < tab.ng := by have := hr.1; omega
  have r3 := r1.2.2
  have rs0 := hr.s
  have rs := r1.s
  have z0 : ((0 : Int) == 0) = true := rfl
  have z : ((39 : Int) != 0) = true := rfl
  generalize he : exR (EV tab) nqLoop ⟨false, 50, tm, h⟩ = r
  rw [nqLoop, exR_loop] at he
  simp only [sS, sevalprocAttr, fF49, tT, sN, sO, ng_eq, tabL_ng, t0, e1, hs, hnp, r3, rs0, rs, iNeq, iEql, z, z0, op_nil] at he
  subst he
  exact ⟨_, h1, a1, rfl, by simp only [Tr.get_set, Nat.reduceEqDiff, ↓reduceIte]; rfl, r1, c1, c2, c3, k1⟩
 | cons b q ih =>
  intro i out a0 tm h hd ha hi ho hng hr hb t0 t3 t4
  obtain ⟨bk, o, c, h1, a1, e1, hs, r1, c1, c2, c3, k1⟩ := takeq1 tab hT h p v l a0 0 hng hr hb ha hl
  have ht : takeR 1 (b :: q, 0) = ([b], (q, 0)) := takeR_ok (by simp)
  rw [hd, ht] at hs r1 c1
  simp only [List.headD_cons] at hs r1 c1
  have hnp : ¬ p < tab.ng := by have := hr.1; omega
  have r3 := r1.2.2
  have rs0 := hr.s
  have rs := r1.s
  have z0 : ((0 : Int) == 0) = true := rfl
  have z : ((0 : Int) != 0) = false := rfl
  have hbl : b.toNat < 256 := b.toNat_lt
  have cv : IntKind.u64.wrap ((b.toNat % 128 : Nat) : Int) = ((b.toNat % 128 : Nat) : Int) := u64_nat _ (by omega)
  have a127 := remq128 b.toNat
  have m7 := mul7 i hi
  have hb1 := hb.keptX k1 hr.nb
  by_cases q1 : (i = 9 ∧ 1 < b.toNat) ∨ (0 < i ∧ b.toNat = 0)
  ·have hG : numG (b :: q) i out = (0, (q, 1)) := by rw [numG, if_pos q1]
   rw [hG]
   have k2 : KeptX p h (h1.put p (.cells 131 3 [v, .int .i64 a1, .int .i64 1])) := k1.put _
   have fin : RQ tab (h1.put p (.cells 131 3 [v, .int .i64 a1, .int .i64 1])) p v a1 1 := ⟨hr.1, r1.2.1, by rw [H.get_put, if_pos rfl]⟩
   by_cases q9 : i = 9
   ·have g1 : ((i : Int) == 9) = true := by rw [beq_iff_eq]; omega
    by_cases qb : 1 < b.toNat
    ·have g2 : decide ((1 : Int) < (b.toNat : Int)) = true := decide_eq_true (by omega)
     generalize he : exR (EV tab) nqLoop ⟨false, 50, tm, h⟩ = r
     rw [nqLoop, exR_loop] at he
     simp only [sS, sevalprocAttr, fF49, tT, sN, sO, ng_eq, tabL_ng, t0, t3, t4, e1, hs, hnp, r3, rs0, rs, iNeq, iEql, iGtr, iLss, gt_iff_lt, z, z0, op_nil, a127, m7, cv, g1, g2] at he
     subst he
     exact ⟨_, _, a1, rfl, by simp only [Tr.get_set, Nat.reduceEqDiff, ↓reduceIte]; rfl, fin, c1, c2, c3, k2⟩
    ·have g2 : decide ((1 : Int) < (b.toNat : Int)) = false := decide_eq_false (by omega)
     have g3 : decide ((0 : Int) < (i : Int)) = true := decide_eq_true (by omega)
     have g4 : ((b.toNat : Int) == 0) = true := by rw [beq_iff_eq]; omega
     generalize he : exR (EV tab) nqLoop ⟨false, 50, tm, h⟩ = r
     rw [nqLoop, exR_loop] at he
     simp only [sS, sevalprocAttr, fF49, tT, sN, sO, ng_eq, tabL_ng, t0, t3, t4, e1, hs, hnp, r3, rs0, rs, iNeq, iEql, iGtr, iLss, gt_iff_lt, z, z0, op_nil, a127, m7, cv, g1, g2, g3, g4] at he
     subst he
     exact ⟨_, _, a1, rfl, by simp only [Tr.get_set, Nat.reduceEqDiff, ↓reduceIte]; rfl, fin, c1, c2, c3, k2⟩
   ·have g1 : ((i : Int) == 9) = false := by rw [beq_eq_false_iff_ne]; omega
    have g3 : decide ((0 : Int) < (i : Int)) = true := decide_eq_true (by omega)
    have g4 : ((b.toNat : Int) == 0) = true := by rw [beq_iff_eq]; omega
    generalize he : exR (EV tab) nqLoop ⟨false, 50, tm, h⟩ = r
    rw [nqLoop, exR_loop] at he
    simp only [sS, sevalprocAttr, fF49, tT, sN, sO, ng_eq, tabL_ng, t0, t3, t4, e1, hs, hnp, r3, rs0, rs, iNeq, iEql, iGtr, iLss, gt_iff_lt, z, z0, op_nil, a127, m7, cv, g1, g3, g4] at he
    subst he
    exact ⟨_, _, a1, rfl, by simp only [Tr.get_set, Nat.reduceEqDiff, ↓reduceIte]; rfl, fin, c1, c2, c3, k2⟩
  ·have hG : numG (b :: q) i out = if b.toNat < 128 then (out + b.toNat * 128 ^ i, (q, 0)) else numG q (i + 1) (out + (b.toNat - 128) * 128 ^ i) := by rw [numG, if_neg q1]
   rw [hG]
   rw [not_or] at q1
   obtain ⟨q2, q3⟩ := q1
   have hlim : b.toNat % 128 * 128 ^ i < 18446744073709551616 ∧ out + b.toNat % 128 * 128 ^ i < 18446744073709551616 := by
    by_cases q9 : i = 9
    ·subst q9
     have h2 : b.toNat % 128 * 128 ^ 9 ≤ 1 * 128 ^ 9 := Nat.mul_le_mul_right _ (by omega)
     have h3 : (128 : Nat) ^ 9 = 9223372036854775808 := by decide
     omega
    ·have h2 : b.toNat % 128 * 128 ^ i ≤ 127 * 128 ^ i := Nat.mul_le_mul_right _ (by omega)
     have h3 : (128 : Nat) ^ i ≤ 128 ^ 8 := Nat.pow_le_pow_right (by decide) (by omega)
     have h4 : (128 : Nat) ^ 8 = 72057594037927936 := by decide
     omega
   have s1 := shl7 (b.toNat % 128) i hi hlim.1
   have s2 := or_add out (b.toNat % 128) i ho hlim.2
   by_cases q9 : i = 9
   ·have g1 : ((i : Int) == 9) = true := by rw [beq_iff_eq]; omega
    have g2 : decide ((1 : Int) < (b.toNat : Int)) = false := decide_eq_false (by omega)
    have g3 : decide ((0 : Int) < (i : Int)) = true := decide_eq_true (by omega)
    have g4 : ((b.toNat : Int) == 0) = false := by rw [beq_eq_false_iff_ne]; omega
    have qb : b.toNat < 128 := by omega
    have hm : b.toNat % 128 = b.toNat := Nat.mod_eq_of_lt qb
    have kb : decide ((b.toNat : Int) < 128) = true := decide_eq_true (by omega)
    rw [hm] at s1 s2 cv a127
    rw [if_pos qb]
    generalize he : exR (EV tab) nqLoop ⟨false, 50, tm, h⟩ = r
    rw [nqLoop, exR_loop] at he
    simp only [sS, sevalprocAttr, fF49, tT, sN, sO, ng_eq, tabL_ng, t0, t3, t4, e1, hs, hnp, r3, rs0, rs, iNeq, iEql, iGtr, iLss, gt_iff_lt, z, z0, op_nil, a127, m7, cv, g1, g2, g3, g4, s1, s2, kb] at he
    subst he
    exact ⟨_, h1, a1, rfl, by simp only [Tr.get_set, Nat.reduceEqDiff, ↓reduceIte], r1, c1, c2, c3, k1⟩
   ·have g1 : ((i : Int) == 9) = false := by rw [beq_eq_false_iff_ne]; omega
    by_cases qi : 0 < i
    ·have g3 : decide ((0 : Int) < (i : Int)) = true := decide_eq_true (by omega)
     have g4 : ((b.toNat : Int) == 0) = false := by rw [beq_eq_false_iff_ne]; omega
     by_cases qb : b.toNat < 128
     ·skip
      have hm : b.toNat % 128 = b.toNat := Nat.mod_eq_of_lt qb
      have kb : decide ((b.toNat : Int) < 128) = true := decide_eq_true (by omega)
      rw [hm] at s1 s2 cv a127
      rw [if_pos qb]
      generalize he : exR (EV tab) nqLoop ⟨false, 50, tm, h⟩ = r
      rw [nqLoop, exR_loop] at he
      simp only [sS, sevalprocAttr, fF49, tT, sN, sO, ng_eq, tabL_ng, t0, t3, t4, e1, hs, hnp, r3, rs0, rs, iNeq, iEql, iGtr, iLss, gt_iff_lt, z, z0, op_nil, a127, m7, cv, g1, g3, g4, s1, s2, kb] at he
      subst he
      exact ⟨_, h1, a1, rfl, by simp only [Tr.get_set, Nat.reduceEqDiff, ↓reduceIte], r1, c1, c2, c3, k1⟩
     ·skip
      have hm : b.toNat % 128 = b.toNat - 128 := by omega
      have kb : decide ((b.toNat : Int) < 128) = false := decide_eq_false (by omega)
      rw [hm] at s1 s2 cv a127 hlim
      rw [if_neg qb]
      obtain ⟨tm1, e2, b0, b3, b4⟩ : ∃ tm1, exR (EV tab) nqLoop ⟨false, 50, tm, h⟩ = exR (EV tab) nqLoop ⟨false, 50, tm1, h1⟩ ∧ tm1.get 0 = some (.pointer (some ⟨p, 0, none⟩)) ∧ tm1.get 3 = some (.int .u64 ((out + (b.toNat - 128) * 128 ^ i : Nat) : Int)) ∧ tm1.get 4 = some (.int .i64 ((i + 1 : Nat) : Int)) := by
       generalize he : exR (EV tab) nqLoop ⟨false, 50, tm, h⟩ = r
       rw [nqLoop, exR_loop] at he
       simp only [sS, sevalprocAttr, fF49, tT, sN, sO, ng_eq, tabL_ng, t0, t3, t4, e1, hs, hnp, r3, rs0, rs, iNeq, iEql, iGtr, iLss, gt_iff_lt, z, z0, op_nil, a127, m7, cv, g1, g3, g4, s1, s2, kb, add1 i (by omega)] at he
       subst he
       refine ⟨_, rfl, ?_, ?_, ?_⟩ <;> simp only [Tr.get_set, Nat.reduceEqDiff, ↓reduceIte, t0]
      obtain ⟨tm', h', a2, x1, x2, x3, x4, x5, x6, x7⟩ := ih (i + 1) (out + (b.toNat - 128) * 128 ^ i) a1 tm1 h1 c1 c3 (by omega) (by
       have : (b.toNat - 128) * 128 ^ i ≤ 127 * 128 ^ i := Nat.mul_le_mul_right _ (by omega)
       rw [Nat.pow_succ]; omega) (Nat.le_trans hng k1.le) r1 hb1 b0 b3 b4
      exact ⟨tm', h', a2, by rw [e2]; exact x1, x2, x3, x4, by omega, x6, k1.trans x7⟩
    ·have g3 : decide ((0 : Int) < (i : Int)) = false := decide_eq_false (by omega)
     by_cases qb : b.toNat < 128
     ·skip
      have hm : b.toNat % 128 = b.toNat := Nat.mod_eq_of_lt qb
      have kb : decide ((b.toNat : Int) < 128) = true := decide_eq_true (by omega)
      rw [hm] at s1 s2 cv a127
      rw [if_pos qb]
      generalize he : exR (EV tab) nqLoop ⟨false, 50, tm, h⟩ = r
      rw [nqLoop, exR_loop] at he
      simp only [sS, sevalprocAttr, fF49, tT, sN, sO, ng_eq, tabL_ng, t0, t3, t4, e1, hs, hnp, r3, rs0, rs, iNeq, iEql, iGtr, iLss, gt_iff_lt, z, z0, op_nil, a127, m7, cv, g1, g3, s1, s2, kb] at he
      subst he
      exact ⟨_, h1, a1, rfl, by simp only [Tr.get_set, Nat.reduceEqDiff, ↓reduceIte], r1, c1, c2, c3, k1⟩
     ·skip
      have hm : b.toNat % 128 = b.toNat - 128 := by omega
      have kb : decide ((b.toNat : Int) < 128) = false := decide_eq_false (by omega)
      rw [hm] at s1 s2 cv a127 hlim
      rw [if_neg qb]
      obtain ⟨tm1, e2, b0, b3, b4⟩ : ∃ tm1, exR (EV tab) nqLoop ⟨false, 50, tm, h⟩ = exR (EV tab) nqLoop ⟨false, 50, tm1, h1⟩ ∧ tm1.get 0 = some (.pointer (some ⟨p, 0, none⟩)) ∧ tm1.get 3 = some (.int .u64 ((out + (b.toNat - 128) * 128 ^ i : Nat) : Int)) ∧ tm1.get 4 = some (.int .i64 ((i + 1 : Nat) : Int)) := by
       generalize he : exR (EV tab) nqLoop ⟨false, 50, tm, h⟩ = r
       rw [nqLoop, exR_loop] at he
       simp only [sS, sevalprocAttr, fF49, tT, sN, sO, ng_eq, tabL_ng, t0, t3, t4, e1, hs, hnp, r3, rs0, rs, iNeq, iEql, iGtr, iLss, gt_iff_lt, z, z0, op_nil, a127, m7, cv, g1, g3, s1, s2, kb, add1 i (by omega)] at he
       subst he
       refine ⟨_, rfl, ?_, ?_, ?_⟩ <;> simp only [Tr.get_set, Nat.reduceEqDiff, ↓reduceIte, t0]
      obtain ⟨tm', h', a2, x1, x2, x3, x4, x5, x6, x7⟩ := ih (i + 1) (out + (b.toNat - 128) * 128 ^ i) a1 tm1 h1 c1 c3 (by omega) (by
       have : (b.toNat - 128) * 128 ^ i ≤ 127 * 128 ^ i := Nat.mul_le_mul_right _ (by omega)
       rw [Nat.pow_succ]; omega) (Nat.le_trans hng k1.le) r1 hb1 b0 b3 b4
      exact ⟨tm', h', a2, by rw [e2]; exact x1, x2, x3, x4, by omega, x6, k1.trans x7⟩
theorem numberq_run (tab : Tab) (hx : ∀ l, callExt (EV tab) 49 l = none) (hT : TakeQ tab) (h : H) (p : Nat) (v : Value) (l : List UInt8) (a0 : Nat) (e : Int) (hng : tab.ng ≤ h.next) (hr : RQ tab h p v a0 e) (hb : BT tab h v l) (ha : a0 ≤ l.length) (hl : l.length < 1000000) :
  ∃ h' a1, callR (EV tab) 49 [.pointer (some ⟨p, 0, none⟩)] h = some (.int .u64 ((numI (l.drop a0, e)).1 : Nat), h') ∧ RQ tab h' p v a1 (numI (l.drop a0, e)).2.2 ∧ l.drop a1 = (numI (l.drop a0, e)).2.1 ∧ a0 ≤ a1 ∧ a1 ≤ l.length ∧ KeptX p h h' := by
 by_cases q : e = 0
 ·subst q
  have hI : numI (l.drop a0, 0) = numG (l.drop a0) 0 0 := by unfold numI; rw [if_neg (by simp)]
  rw [hI]
  have key : ∀ tm h1, (h1 = h ∧ tm.get 0 = some (.pointer (some ⟨p, 0, none⟩)) ∧ tm.get 3 = some (.int .u64 ((0 : Nat) : Int)) ∧ tm.get 4 = some (.int .i64 ((0 : Nat) : Int))) → ∃ x s', exR (EV tab) nqLoop ⟨false, 50, tm, h1⟩ = some (x, s') ∧
    (x = .ret ∧ ∃ tm' h' a1, s' = ⟨false, 50, tm', h'⟩ ∧ tm'.get 2 = some (.int .u64 ((numG (l.drop a0) 0 0).1 : Nat)) ∧ RQ tab h' p v a1 (numG (l.drop a0) 0 0).2.2 ∧ l.drop a1 = (numG (l.drop a0) 0 0).2.1 ∧ a0 ≤ a1 ∧ a1 ≤ l.length ∧ KeptX p h h') := fun tm h1 q => by
   obtain ⟨rfl, p0, p3, p4⟩ := q
   obtain ⟨tm', h', a1, x1, x2⟩ := nq_loop tab hT p v l hl (l.drop a0) 0 0 a0 tm h1 rfl ha (by decide) (by decide) hng hr hb p0 p3 p4
   exact ⟨_, _, x1, rfl, tm', h', a1, rfl, x2⟩
  generalize he : callR _ _ _ _ = r
  rw [enter49 _ _ _ (hx _) rfl] at he
  simp only [sS, sevalprocAttr, r49_0, r49_1, r49_2, tT] at he
  obtain ⟨x1, s1, ⟨rfl, tm', h', a1, rfl, x2, x3, x4, x5, x6, x7⟩, he⟩ := use_run key (fun o => finish (EV tab) [ResultVar.tmp 2] (andThen (unblock 0 o) (exR (EV tab) (.seq (Rg 49 14) .ret)))) he (by
   refine ⟨rfl, ?_, ?_, ?_⟩ <;> simp only [Tr.get_set, Nat.reduceEqDiff, ↓reduceIte] <;> rfl)
  simp only [sS, sevalprocAttr, x2] at he
  subst he
  exact ⟨h', a1, rfl, x3, x4, x5, x6, x7⟩
 ·have hI : numI (l.drop a0, e) = (0, (l.drop a0, e)) := numI_err _ e q
  rw [hI]
  have rs := hr.s
  have r3 := hr.2.2
  have hnp : ¬ p < tab.ng := by have := hr.1; omega
  have z : (e == 0) = false := by rw [beq_eq_false_iff_ne]; exact q
  generalize he : callR _ _ _ _ = r
  rw [enter49 _ _ _ (hx _) rfl] at he
  simp only [sS, sevalprocAttr, fF49, tT, sN, sO, exR_loop, ng_eq, tabL_ng, hnp, r3, rs, iEql, z, op_nil] at he
  subst he
  exact ⟨h, a0, rfl, hr, rfl, Nat.le_refl _, ha, KeptX.refl p h⟩
abbrev NumQ (tab : Tab) : Prop := ∀ (h : H) (p : Nat) (v : Value) (l : List UInt8) (a0 : Nat) (e : Int), tab.ng ≤ h.next → RQ tab h p v a0 e → BT tab h v l → a0 ≤ l.length → l.length < 1000000 →
 ∃ h' a1, callR (EV tab) 49 [.pointer (some ⟨p, 0, none⟩)] h = some (.int .u64 ((numI (l.drop a0, e)).1 : Nat), h') ∧ RQ tab h' p v a1 (numI (l.drop a0, e)).2.2 ∧ l.drop a1 = (numI (l.drop a0, e)).2.1 ∧ a0 ≤ a1 ∧ a1 ≤ l.length ∧ KeptX p h h'
theorem numG_no : ∀ (l : List UInt8) (i o : Nat), (numG l i o).2.2 ≠ 0 → (numG l i o).1 = 0
 | [], _, _, _ => rfl
 | b :: l, i, o, h => by
  rw [numG] at h ⊢
  split at h
  ·rename_i q; rw [if_pos q]
  ·rename_i q
   rw [if_neg q]
   split at h
   ·exact absurd rfl h
   ·rename_i q2; rw [if_neg q2]; exact numG_no l _ _ h
theorem numI_no (r : Rd) (h : (numI r).2.2 ≠ 0) : (numI r).1 = 0 := by
 unfold numI at h ⊢
 split
 ·rfl
 ·rename_i q; rw [if_neg q] at h; exact numG_no _ _ _ h
theorem intq_run (tab : Tab) (hx : ∀ l, callExt (EV tab) 50 l = none) (hN : NumQ tab) (h : H) (p : Nat) (v : Value) (l : List UInt8) (a0 : Nat) (e : Int) (hng : tab.ng ≤ h.next) (hr : RQ tab h p v a0 e) (hb : BT tab h v l) (ha : a0 ≤ l.length) (hl : l.length < 1000000) :
  ∃ h' a1, callR (EV tab) 50 [.pointer (some ⟨p, 0, none⟩)] h = some (.int .i64 ((smallI (l.drop a0, e)).1 : Nat), h') ∧ RQ tab h' p v a1 (smallI (l.drop a0, e)).2.2 ∧ l.drop a1 = (smallI (l.drop a0, e)).2.1 ∧ a0 ≤ a1 ∧ a1 ≤ l.length ∧ KeptX p h h' := by
 obtain ⟨h1, a1, e1, r1, c1, c2, c3, k1⟩ := hN h p v l a0 e hng hr hb ha hl
 have hnp : ¬ p < tab.ng := by have := hr.1; omega
 have r3 := r1.2.2
 have rs := r1.s
 have hno := numI_no (l.drop a0, e)
 unfold smallI
 generalize hn : numI (l.drop a0, e) = s at e1 r1 c1 r3 rs hno
 obtain ⟨n, l', e'⟩ := s
 simp only at e1 r1 c1 r3 rs hno ⊢
 by_cases qe : e' = 0
 ·subst qe
  have z0 : ((0 : Int) == 0) = true := rfl
  have zn : ((0 : Int) != 0) = false := rfl
  have zm : ((1 : Int) != 0) = true := rfl
  by_cases q : 2 ^ 62 < n
  ·have d1 : decide ((4611686018427387904 : Int) < (n : Int)) = true := decide_eq_true (by omega)
   rw [if_pos q]
   generalize he : callR _ _ _ _ = x
   rw [enter50 _ _ _ (hx _) rfl] at he
   simp only [sS, sevalprocAttr, fF50, tT, sN, sM, ng_eq, tabL_ng, hnp, e1, iGtr, iEql, iNeq, gt_iff_lt, d1, r3, z0, zn, zm, op_nil] at he
   subst he
   exact ⟨_, a1, rfl, ⟨hr.1, r1.2.1, by rw [H.get_put, if_pos rfl]; rfl⟩, c1, c2, c3, k1.put _⟩
  ·have d1 : decide ((4611686018427387904 : Int) < (n : Int)) = false := decide_eq_false (by omega)
   have w1 : IntKind.i64.wrap (n : Int) = n := IntWalk.i64_in _ (by omega)
   rw [if_neg q]
   generalize he : callR _ _ _ _ = x
   rw [enter50 _ _ _ (hx _) rfl] at he
   simp only [sS, sevalprocAttr, fF50, tT, sN, sM, ng_eq, tabL_ng, hnp, e1, iGtr, iEql, iNeq, gt_iff_lt, d1, w1, r3, z0, zn, op_nil] at he
   subst he
   exact ⟨_, a1, rfl, r1, c1, c2, c3, k1⟩
 ·obtain rfl := hno qe
  have z0 : (e' == 0) = false := by rw [beq_eq_false_iff_ne]; exact qe
  have zn : (e' != 0) = true := by simpa using qe
  rw [if_neg (by omega)]
  generalize he : callR _ _ _ _ = x
  rw [enter50 _ _ _ (hx _) rfl] at he
  simp only [sS, sevalprocAttr, fF50, tT, sN, sM, ng_eq, tabL_ng, hnp, e1, iGtr, iEql, iNeq, r3, z0, zn, op_nil] at he
  subst he
  exact ⟨_, a1, rfl, r1, c1, c2, c3, k1⟩
noncomputable def lqLoop : Code := (.loop (.seq (.seq (Rg 53 3) (.cond (Operand.tmp 8) .skip (Code.exit 0))) (.seq (.block 1 (Rg 53 5)) (Rg 53 4))))
theorem lq_loop (tab : Tab) (h : H) (b o c : Nat) (l : List UInt8) (hm : Mem tab h b o (bs l)) (hn : l.length ≤ 8) : ∀ (k i : Nat) (tm : Tr Value), i + k = l.length → tm.get 0 = some (.slice (some ⟨b, o, none⟩) l.length c) → tm.get 3 = some (.int .u64 (leN (l.take i) : Nat)) → tm.get 4 = some (.int .i64 i) →
  ∃ tm', exR (EV tab) lqLoop ⟨false, 22, tm, h⟩ = some (.exit 0, ⟨false, 22, tm', h⟩) ∧ tm'.get 3 = some (.int .u64 (leN l : Nat)) := by
 intro k
 induction k with
 | zero =>
  intro i tm hk t0 t3 t4
  have hlt : ¬ i < l.length := by omega
  rw [List.take_of_length_le (by omega)] at t3
  generalize he : exR (EV tab) lqLoop ⟨false, 22, tm, h⟩ = r
  rw [lqLoop, exR_loop] at he
  simp only [sS, sevalprocAttr, fF53, tT, t0, t3, t4, iLss, Int.ofNat_lt, hlt, decide_false] at he
  subst he
  exact ⟨_, rfl, by simp only [Tr.get_set, Nat.reduceEqDiff, ↓reduceIte, t3]⟩
 | succ k ih =>
  intro i tm hk t0 t3 t4
  have hlt : i < l.length := by omega
  have hs := hm.byte i hlt
  have hb := l[i].toNat_lt
  have htl : (l.take i).length = i := by rw [List.length_take]; omega
  have hlo : leN (l.take i) < 256 ^ i := by have := leN_lt (l.take i); rwa [htl] at this
  have h8 : (256 : Nat) ^ i ≤ 256 ^ 7 := Nat.pow_le_pow_right (by decide) (by omega)
  have h7 : (256 : Nat) ^ 7 = 72057594037927936 := by decide
  have hg : l[i].toNat * 256 ^ i ≤ 255 * 256 ^ i := Nat.mul_le_mul_right _ (by omega)
  have s1 := shl8 l[i].toNat i (by omega) (by omega)
  have s2 := or_add8 (leN (l.take i)) l[i].toNat i hlo (by omega)
  have m8 := mul8 i (by omega)
  have cv : IntKind.u64.wrap (l[i].toNat : Int) = (l[i].toNat : Nat) := u64_nat _ (by omega)
  have hx : (0 : Int) ≤ i ∧ (i : Int) < (l.length : Nat) := by omega
  have e3 : leN (l.take i) + l[i].toNat * 256 ^ i = leN (l.take (i + 1)) := by
   rw [List.take_add_one, List.getElem?_eq_getElem hlt, leN_append, htl]
   show _ = _ + (l[i].toNat + 256 * 0) * 256 ^ i
   rw [Nat.mul_zero, Nat.add_zero]
  obtain ⟨tm1, e2, p0, p3, p4⟩ : ∃ tm1, exR (EV tab) lqLoop ⟨false, 22, tm, h⟩ = exR (EV tab) lqLoop ⟨false, 22, tm1, h⟩ ∧ tm1.get 0 = some (.slice (some ⟨b, o, none⟩) l.length c) ∧ tm1.get 3 = some (.int .u64 (leN (l.take (i + 1)) : Nat)) ∧ tm1.get 4 = some (.int .i64 ((i + 1 : Nat) : Int)) := by
   rw [← e3]
   generalize he : exR (EV tab) lqLoop ⟨false, 22, tm, h⟩ = r
   rw [lqLoop, exR_loop] at he
   simp only [sS, sevalprocAttr, fF53, tT, sN, sO, t0, t3, t4, iLss, Int.ofNat_lt, hlt, decide_true, hs, cv, m8, s1, s2, hx, and_self, if_true, Int.toNat_natCast, Nat.mul_one, add1 i (by omega)] at he
   subst he
   refine ⟨_, rfl, ?_, ?_, ?_⟩ <;> simp only [Tr.get_set, Nat.reduceEqDiff, ↓reduceIte, t0]
  obtain ⟨tm', x1, x2⟩ := ih (i + 1) tm1 (by omega) p0 p3 p4
  exact ⟨tm', by rw [e2]; exact x1, x2⟩
theorem littleq_run (tab : Tab) (hx : ∀ l, callExt (EV tab) 53 l = none) (h : H) (w : Value) (l : List UInt8) (hw : BT tab h w l) (hn : l.length ≤ 8) (h0 : l ≠ []) :
  callR (EV tab) 53 [w] h = some (.int .u64 (leN l : Nat), h) := by
 rcases hw with ⟨_, z⟩ | ⟨b, o, c, rfl, m, _⟩
 ·exact absurd z h0
 have key : ∀ tm h1, (h1 = h ∧ tm.get 0 = some (.slice (some ⟨b, o, none⟩) l.length c) ∧ tm.get 3 = some (.int .u64 ((leN (l.take 0) : Nat) : Int)) ∧ tm.get 4 = some (.int .i64 ((0 : Nat) : Int))) → ∃ x s', exR (EV tab) lqLoop ⟨false, 22, tm, h1⟩ = some (x, s') ∧
   (x = .exit 0 ∧ ∃ tm', s' = ⟨false, 22, tm', h⟩ ∧ tm'.get 3 = some (.int .u64 (leN l : Nat))) := fun tm h1 q => by
  obtain ⟨rfl, p0, p3, p4⟩ := q
  obtain ⟨tm', x1, x2⟩ := lq_loop tab h1 b o c l m hn l.length 0 tm (Nat.zero_add _) p0 p3 p4
  exact ⟨_, _, x1, rfl, tm', rfl, x2⟩
 generalize he : callR _ _ _ _ = r
 rw [enter53 _ _ _ (hx _) rfl] at he
 simp only [sS, sevalprocAttr, r53_0, r53_1, r53_2, tT] at he
 obtain ⟨x1, s1, ⟨rfl, tm', rfl, x2⟩, he⟩ := use_run key (fun o => finish (EV tab) [ResultVar.tmp 2] (andThen (unblock 0 o) (exR (EV tab) (.seq (Rg 53 6) .ret)))) he (by
  refine ⟨rfl, ?_, ?_, ?_⟩ <;> simp only [Tr.get_set, Nat.reduceEqDiff, ↓reduceIte] <;> rfl)
 simp only [sS, sevalprocAttr, fF53, tT, x2] at he
 subst he
 rfl
theorem signedq_run (tab : Tab) (hx : ∀ l, callExt (EV tab) 51 l = none) (hx2 : ∀ l, callExt (EV tab) 53 l = none) (h : H) (w : Value) (l : List UInt8) (hw : BT tab h w l) (hn : l.length ≤ 4) (h0 : l ≠ []) :
  callR (EV tab) 51 [w] h = some (.int .i64 (s32 (leN l)), h) := by
 have e1 := littleq_run tab hx2 h w l hw (by omega) h0
 have hlt : leN l < 4294967296 := Nat.lt_of_lt_of_le (leN_lt l) (Nat.le_trans (Nat.pow_le_pow_right (by decide) hn) (by decide))
 have w1 := i32_ty (leN l) hlt
 generalize he : callR _ _ _ _ = r
 rw [enter51 _ _ _ (hx _) rfl] at he
 simp only [sS, sevalprocAttr, fF51, tT, e1, w1] at he
 subst he
 rfl
def typedV : Spec
 | [.int .i64 c] => if 0 ≤ c ∧ c < 256 then some (.tuple ⟨[.string ⟨⟨(typS c.toNat).getD []⟩⟩, .bool (typS c.toNat).isSome]⟩) else none
 | _ => none
abbrev TextP (tab : Tab) : Prop := ∀ (n : Nat) (h : H), n ≤ 64 → callR (EV tab) 114 [.int .i64 n] h = some (.string ⟨⟨dec2 n⟩⟩, h)
theorem f_typed {T : List (Nat × Spec)} (hT : Fine T) (hx : ∀ l, callExt (EV (tabL T)) 85 l = none) (hI : TextP (tabL T)) : Fine ((85, typedV) :: T) :=
 hT.step (F := Tryz.f85) (by kernel_rfl) (by kernel_rfl) hx fun args v hv => by
  unfold typedV at hv
  split at hv
  ·rename_i c
   split at hv
   ·rename_i hc
    simp only [Option.some.injEq] at hv
    subst hv
    obtain ⟨n, rfl⟩ : ∃ n : Nat, c = n := ⟨c.toNat, by omega⟩
    rw [Int.toNat_natCast]
    refine ⟨rfl, rfl, ?_⟩
    unfold typS
    by_cases q1 : n ≤ 64
    ·have e0 : ((n : Int) == 255) = false := by rw [beq_eq_false_iff_ne]; omega
     have d0 : decide ((n : Int) ≥ 0) = true := decide_eq_true (by omega)
     have d1 : decide ((n : Int) ≤ 64) = true := decide_eq_true (by omega)
     have i1 := fun h => hI n h q1
     have c1 := cat_ok 117 n
     rw [if_pos q1]
     generalize he : callR _ _ _ _ = x
     rw [enter85 _ _ _ (hx _) rfl] at he
     simp only [sS, sevalprocAttr, fF85, tT, sN, sO, ng_eq, tabL_ng, iEql, iGeq, iLeq, binStr, strBin, e0, d0, d1, i1, c1, op_nil] at he
     subst he
     exact ⟨_, rfl⟩
    have d1 : decide ((n : Int) ≤ 64) = false := decide_eq_false (by omega)
    have d0 : decide ((n : Int) ≥ 0) = true := decide_eq_true (by omega)
    have d2 : decide ((n : Int) ≥ 65) = true := decide_eq_true (by omega)
    rw [if_neg q1]
    by_cases q2 : n ≤ 128
    ·have e0 : ((n : Int) == 255) = false := by rw [beq_eq_false_iff_ne]; omega
     have d3 : decide ((n : Int) ≤ 128) = true := decide_eq_true (by omega)
     have i1 := fun h => hI (n - 64) h (by omega)
     have c1 := cat_ok 105 (n - 64)
     have s1 : iSub .i64 (n : Int) 64 = some (.int .i64 ((n - 64 : Nat) : Int)) := by unfold iSub; rw [IntWalk.i64_in _ (by omega)]; congr 2; omega
     rw [if_pos q2]
     generalize he : callR _ _ _ _ = x
     rw [enter85 _ _ _ (hx _) rfl] at he
     simp only [sS, sevalprocAttr, fF85, tT, sN, sO, ng_eq, tabL_ng, iEql, iGeq, iLeq, binStr, strBin, e0, d0, d1, d2, d3, s1, i1, c1, op_nil] at he
     subst he
     exact ⟨_, rfl⟩
    have d3 : decide ((n : Int) ≤ 128) = false := decide_eq_false (by omega)
    rw [if_neg q2]
    have fin : ∀ (b0 b1 b2 b3 : Bool), ((n : Int) == 255) = b0 → ((n : Int) == 129) = b1 → ((n : Int) == 130) = b2 → ((n : Int) == 131) = b3 → ∃ h', callR (EV (tabL T)) 85 [.int .i64 n] h0 = some (.tuple ⟨[.string ⟨⟨if b0 then [] else if b1 then F32 else if b2 then F64 else if b3 then PTR else []⟩⟩, .bool (b0 || b1 || b2 || b3)]⟩, h') := fun b0 b1 b2 b3 e0 e1 e2 e3 => by
     generalize he : callR _ _ _ _ = x
     rw [enter85 _ _ _ (hx _) rfl] at he
     cases b0 <;> cases b1 <;> cases b2 <;> cases b3 <;>
      (simp only [sS, sevalprocAttr, fF85, tT, sN, sO, ng_eq, tabL_ng, iEql, iGeq, iLeq, e0, e1, e2, e3, d0, d1, d2, d3, op_nil] at he; subst he; exact ⟨_, rfl⟩)
    obtain ⟨h', e⟩ := fin _ _ _ _ rfl rfl rfl rfl
    refine ⟨h', ?_⟩
    rw [e]
    have k0 : ((n : Int) == 255) = decide (n = 255) := by rw [Bool.eq_iff_iff, beq_iff_eq, decide_eq_true_iff]; omega
    have k1 : ((n : Int) == 129) = decide (n = 129) := by rw [Bool.eq_iff_iff, beq_iff_eq, decide_eq_true_iff]; omega
    have k2 : ((n : Int) == 130) = decide (n = 130) := by rw [Bool.eq_iff_iff, beq_iff_eq, decide_eq_true_iff]; omega
    have k3 : ((n : Int) == 131) = decide (n = 131) := by rw [Bool.eq_iff_iff, beq_iff_eq, decide_eq_true_iff]; omega
    rw [k0, k1, k2, k3]
    by_cases r1 : n = 129
    ·subst r1; rfl
    by_cases r2 : n = 130
    ·subst r2; rfl
    by_cases r3 : n = 131
    ·subst r3; rfl
    by_cases r4 : n = 255
    ·subst r4; rfl
    simp [r1, r2, r3, r4]
   ·cases hv
  ·cases hv
abbrev TypedP (tab : Tab) : Prop := ∀ (c : Nat) (h : H), c < 256 → callR (EV tab) 85 [.int .i64 c] h = some (.tuple ⟨[.string ⟨⟨(typS c).getD []⟩⟩, .bool (typS c).isSome]⟩, h)
theorem typq_run (tab : Tab) (hx : ∀ l, callExt (EV tab) 48 l = none) (hT : TakeQ tab) (hI : TypedP tab) (h : H) (p : Nat) (v : Value) (l : List UInt8) (a0 : Nat) (e : Int) (hng : tab.ng ≤ h.next) (hr : RQ tab h p v a0 e) (hb : BT tab h v l) (ha : a0 ≤ l.length) (hl : l.length < 1000000) :
  ∃ h' a1, callR (EV tab) 48 [.pointer (some ⟨p, 0, none⟩)] h = some (.string ⟨⟨(typI (l.drop a0, e)).1⟩⟩, h') ∧ RQ tab h' p v a1 (typI (l.drop a0, e)).2.2 ∧ l.drop a1 = (typI (l.drop a0, e)).2.1 ∧ a0 ≤ a1 ∧ a1 ≤ l.length ∧ KeptX p h h' := by
 obtain ⟨b, o, c, h1, a1, e1, hs, r1, c1, c2, c3, k1⟩ := takeq1 tab hT h p v l a0 e hng hr hb ha hl
 have hnp : ¬ p < tab.ng := by have := hr.1; omega
 have r3 := r1.2.2
 have rs := r1.s
 unfold typI
 generalize takeR 1 (l.drop a0, e) = s at hs r1 c1 r3 rs
 obtain ⟨bl, l', e'⟩ := s
 simp only at hs r1 c1 r3 rs ⊢
 generalize bl.headD 0 = a at hs ⊢
 have hlt := a.toNat_lt
 have w1 := byte_i64 a
 have i1 := fun h => hI a.toNat h hlt
 by_cases q : e' = 0
 ·subst q
  have z : ((0 : Int) != 0) = false := rfl
  rw [if_neg (by simp)]
  cases ht : typS a.toNat with
  | some t =>
   simp only [ht, Option.getD_some, Option.isSome_some] at i1
   generalize he : callR _ _ _ _ = x
   rw [enter48 _ _ _ (hx _) rfl] at he
   simp only [sS, sevalprocAttr, fF48, tT, sN, sO, ng_eq, tabL_ng, e1, hs, hnp, r3, rs, iNeq, z, w1, i1, op_nil] at he
   subst he
   exact ⟨_, a1, rfl, r1, c1, c2, c3, k1⟩
  | none =>
   simp only [ht, Option.getD_none, Option.isSome_none] at i1
   generalize he : callR _ _ _ _ = x
   rw [enter48 _ _ _ (hx _) rfl] at he
   simp only [sS, sevalprocAttr, fF48, tT, sN, sO, ng_eq, tabL_ng, e1, hs, hnp, r3, rs, iNeq, z, w1, i1, op_nil] at he
   subst he
   exact ⟨_, a1, rfl, ⟨hr.1, r1.2.1, by rw [H.get_put, if_pos rfl]⟩, c1, c2, c3, k1.put _⟩
 ·have z : (e' != 0) = true := by simpa using q
  rw [if_pos q]
  generalize he : callR _ _ _ _ = x
  rw [enter48 _ _ _ (hx _) rfl] at he
  simp only [sS, sevalprocAttr, fF48, tT, sN, sO, ng_eq, tabL_ng, e1, hs, hnp, r3, rs, iNeq, z, w1, op_nil] at he
  subst he
  exact ⟨_, a1, rfl, r1, c1, c2, c3, k1⟩
theorem RQ.keep {tab : Tab} {h h' : H} {p q : Nat} {v : Value} {a : Nat} {e : Int} (r : RQ tab h p v a e) (k : KeptX q h h') (hq : p ≠ q) : RQ tab h' p v a e := ⟨r.1, Nat.lt_of_lt_of_le r.2.1 k.le, by rw [k.get p r.2.1 hq]; exact r.2.2⟩
def readR (c : Nat) (x : Ins) (r : Rd) : Ins × Rd :=
 if c = 116 then readI 84 x r else if c = 117 then readI 85 x r else if c = 101 then readI 70 (readI 76 (readI 80 x r).1 (readI 80 x r).2).1 (readI 76 (readI 80 x r).1 (readI 80 x r).2).2 else readI c x r
def foldR : List UInt8 → Ins × Rd → Ins × Rd
 | [], s => s
 | c :: us, s => foldR us (readR c.toNat s.1 s.2)
theorem fold_eq (r : KindR) (k : Nat) (hk : kindT[k]? = some r) (s : Ins × Rd) : foldR (usesR r.uses) s = foldI r.uses s := by
 have hm := List.mem_of_getElem? hk
 have h : kindT.all (fun r => [[110], [119], [], [84, 110], [84, 85, 110], [84, 115], [115], [84], [100], [84, 119, 100], [80, 76, 70]].contains r.uses) = true := by decide
 have h2 := List.all_eq_true.1 h r hm
 generalize r.uses = us at h2 ⊢
 simp only [List.contains_cons, List.contains_nil, Bool.or_eq_true, beq_iff_eq, Bool.or_false] at h2
 rcases h2 with rfl | rfl | rfl | rfl | rfl | rfl | rfl | rfl | rfl | rfl | rfl <;> rfl
structure OnX (tab : Tab) : Prop where
 tk : TakeQ tab
 nu : NumQ tab
 it : ∀ (h : H) (p : Nat) (v : Value) (l : List UInt8) (a0 : Nat) (e : Int), tab.ng ≤ h.next → RQ tab h p v a0 e → BT tab h v l → a0 ≤ l.length → l.length < 1000000 →
  ∃ h' a1, callR (EV tab) 50 [.pointer (some ⟨p, 0, none⟩)] h = some (.int .i64 ((smallI (l.drop a0, e)).1 : Nat), h') ∧ RQ tab h' p v a1 (smallI (l.drop a0, e)).2.2 ∧ l.drop a1 = (smallI (l.drop a0, e)).2.1 ∧ a0 ≤ a1 ∧ a1 ≤ l.length ∧ KeptX p h h'
 ty : ∀ (h : H) (p : Nat) (v : Value) (l : List UInt8) (a0 : Nat) (e : Int), tab.ng ≤ h.next → RQ tab h p v a0 e → BT tab h v l → a0 ≤ l.length → l.length < 1000000 →
  ∃ h' a1, callR (EV tab) 48 [.pointer (some ⟨p, 0, none⟩)] h = some (.string ⟨⟨(typI (l.drop a0, e)).1⟩⟩, h') ∧ RQ tab h' p v a1 (typI (l.drop a0, e)).2.2 ∧ l.drop a1 = (typI (l.drop a0, e)).2.1 ∧ a0 ≤ a1 ∧ a1 ≤ l.length ∧ KeptX p h h'
 xl : ∀ l, callExt (EV tab) 53 l = none
 xs : ∀ l, callExt (EV tab) 51 l = none
theorem negq (n : Nat) (h : n % 2 = 1) (hn : n ≤ 2 ^ 62) : iQuo .i64 (-((n + 1 : Nat) : Int)) 2 = some (.int .i64 (-((n / 2 + 1 : Nat) : Int))) := by
 unfold iQuo
 rw [if_neg (by decide), show ((n + 1 : Nat) : Int) = 2 * ((n / 2 + 1 : Nat) : Int) by omega, Int.neg_tdiv, Int.mul_tdiv_cancel_left _ (by decide), IntWalk.i64_in _ (by omega)]
noncomputable def olLoop : Code := (.loop (.seq (.seq (Rg 28 9) (.cond (Operand.tmp 36) .skip (Code.exit 0))) (.seq (.block 1 (.seq (Rg 28 11) (.block 2 (.seq (Rg 28 12) (.cond (Operand.tmp 42) (Rg 28 13) (.seq (Rg 28 14) (.cond (Operand.tmp 47) (Rg 28 15) (.seq (Rg 28 16) (.cond (Operand.tmp 52) (Rg 28 17) (.seq (Rg 28 18) (.cond (Operand.tmp 57) (.seq (Rg 28 19) (.seq (Rg 28 20) (.seq (Rg 28 21) (.cond (Operand.tmp 66) (Rg 28 22) .skip)))) (.seq (Rg 28 23) (.cond (Operand.tmp 72) (Rg 28 24) (.seq (Rg 28 25) (.cond (Operand.tmp 78) (Rg 28 26) (.seq (Rg 28 27) (.cond (Operand.tmp 84) (.seq (Rg 28 28) (.seq (Rg 28 29) (Rg 28 30))) .skip))))))))))))))))) (Rg 28 10))))
structure OlS (tab : Tab) (h0 h : H) (tm : Tr Value) (p q : Nat) (v : Value) (l us : List UInt8) (x : Ins) (a : Nat) (e : Int) (i : Nat) : Prop where
 t5 : tm.get 5 = some (.pointer (some ⟨p, 0, none⟩))
 t6 : tm.get 6 = some (.pointer (some ⟨q, 0, none⟩))
 t7 : tm.get 7 = some (.string ⟨⟨us⟩⟩)
 t8 : tm.get 8 = some (.int .i64 (i : Nat))
 t2 : ∃ r0, r0 + 1 = h0.next ∧ tm.get 2 = some (.pointer (some ⟨r0, 0, none⟩))
 r : RQ tab h p v a e
 b : BT tab h v l
 a : a ≤ l.length
 g : h.get q = some (.cells 44 6 (insC x))
 ql : q < h.next
 k : KeptY p q h0 h
set_option maxHeartbeats 1000000 in
theorem ol_round (tab : Tab) (hX : OnX tab) (h0 h : H) (hng : tab.ng ≤ h0.next) (tm : Tr Value) (p q : Nat) (v : Value) (l us : List UInt8) (x : Ins) (a0 : Nat) (e : Int) (i : Nat) (hp0 : h0.next ≤ p) (hq0 : h0.next ≤ q) (hpq : q ≠ p) (hl : l.length < 1000000) (hi : i < us.length) (hus : us.length ≤ 100)
  (c : Nat) (hcc : us[i].toNat = c) (hc : c ∈ [116, 117, 110, 115, 100, 119, 101]) (s : OlS tab h0 h tm p q v l us x a0 e i) :
  ∃ tm' h' a1, exR (EV tab) olLoop ⟨false, 116, tm, h⟩ = exR (EV tab) olLoop ⟨false, 116, tm', h'⟩ ∧ OlS tab h0 h' tm' p q v l us (readR c x (l.drop a0, e)).1 a1 (readR c x (l.drop a0, e)).2.2 (i + 1) ∧ l.drop a1 = (readR c x (l.drop a0, e)).2.1 := by
 obtain ⟨tk, nu, it, ty, xl, xs⟩ := hX
 obtain ⟨t5, t6, t7, t8, t2, hr, hb, ha, hgq, hq, hk⟩ := s
 have hnp : ¬ p < tab.ng := by omega
 have hnq : ¬ q < tab.ng := by omega
 have hqp : ¬ p = q := fun z => hpq z.symm
 have hngh : tab.ng ≤ h.next := Nat.le_trans hng hk.le
 have hsz : (ByteArray.mk ⟨us⟩).size = us.length := rfl
 have hget : us[i]? = some us[i] := by simp
 have had := add1 i (by omega)
 generalize hcu : us[i] = cu at hget hcc
 obtain ⟨xo, xt, xu, xn, xi, xs'⟩ := x
 simp only [List.mem_cons, List.not_mem_nil, or_false] at hc
 have gq : ∀ {h1 : H}, KeptX p h h1 → h1.get q = some (.cells 44 6 [.int .i64 xo, .string ⟨⟨xt⟩⟩, .string ⟨⟨xu⟩⟩, .int .u64 xn, .int .i64 xi, .int .i64 xs']) := fun k => by rw [k.get q hq hpq]; exact hgq
 have fin : ∀ {h1 h2 : H} {gl : List Value} {a1 : Nat} {e1 : Int} (z : Ins) (tm' : Tr Value), KeptX q h1 h2 → h2.get q = some (.cells 44 6 (insC z)) → KeptY p q h h1 → BT tab h1 v l → RQ tab h1 p v a1 e1 → a1 ≤ l.length → h1.get q = some (.cells 44 6 gl) → tm'.get 5 = tm.get 5 → tm'.get 6 = tm.get 6 → tm'.get 7 = tm.get 7 → tm'.get 2 = tm.get 2 → tm'.get 8 = some (.int .i64 ((i + 1 : Nat) : Int)) →
   OlS tab h0 h2 tm' p q v l us z a1 e1 (i + 1) := fun {h1 h2 gl a1 e1} z tm' kq gz k hb1 r' ha' gg m5 m6 m7 m2 m8 =>
  ⟨m5.trans t5, m6.trans t6, m7.trans t7, m8, t2.imp fun r0 z => ⟨z.1, m2.trans z.2⟩, r'.keep kq hqp, hb1.keptX kq (nb_cells gg (by decide)), ha', gz, Nat.lt_of_lt_of_le hq (Nat.le_trans k.le kq.le), (hk.trans k).trans kq.y2⟩
 rcases hc with rfl | rfl | rfl | rfl | rfl | rfl | rfl
 ·obtain ⟨h1, a1, e1, r1, c1, c2, c3, k1⟩ := ty h p v l a0 e hngh hr hb ha hl
  have g1 := gq k1
  generalize he : exR (EV tab) olLoop ⟨false, 116, tm, h⟩ = y
  rw [olLoop, exR_loop] at he
  simp only [sS, sevalprocAttr, fF28, tT, sN, subD, ng_eq, tabL_ng, hnp, hnq, hpq, hqp, t5, t6, t7, t8, iLss, hsz, Int.ofNat_lt, hi, decide_true, oIndex, indexD, Int.natCast_nonneg, Int.toNat_natCast, hget, hcc, iEql, Int.cast_ofNat_Int, Int.reduceBEq, had, op_nil, e1, g1] at he
  subst he
  exact ⟨_, _, a1, rfl, fin ⟨xo, (typI (l.drop a0, e)).1, xu, xn, xi, xs'⟩ _ ((KeptX.refl q h1).put _) (by rw [H.get_put, if_pos rfl]; rfl) k1.y1 (hb.keptX k1 hr.nb) r1 c3 (gq k1) (by simp only [Tr.get_set, Nat.reduceEqDiff, ↓reduceIte]) (by simp only [Tr.get_set, Nat.reduceEqDiff, ↓reduceIte]) (by simp only [Tr.get_set, Nat.reduceEqDiff, ↓reduceIte]) (by simp only [Tr.get_set, Nat.reduceEqDiff, ↓reduceIte]) (by simp only [Tr.get_set, Nat.reduceEqDiff, ↓reduceIte]), c1⟩
 ·obtain ⟨h1, a1, e1, r1, c1, c2, c3, k1⟩ := ty h p v l a0 e hngh hr hb ha hl
  have g1 := gq k1
  generalize he : exR (EV tab) olLoop ⟨false, 116, tm, h⟩ = y
  rw [olLoop, exR_loop] at he
  simp only [sS, sevalprocAttr, fF28, tT, sN, subD, ng_eq, tabL_ng, hnp, hnq, hpq, hqp, t5, t6, t7, t8, iLss, hsz, Int.ofNat_lt, hi, decide_true, oIndex, indexD, Int.natCast_nonneg, Int.toNat_natCast, hget, hcc, iEql, Int.cast_ofNat_Int, Int.reduceBEq, had, op_nil, e1, g1] at he
  subst he
  exact ⟨_, _, a1, rfl, fin ⟨xo, xt, (typI (l.drop a0, e)).1, xn, xi, xs'⟩ _ ((KeptX.refl q h1).put _) (by rw [H.get_put, if_pos rfl]; rfl) k1.y1 (hb.keptX k1 hr.nb) r1 c3 (gq k1) (by simp only [Tr.get_set, Nat.reduceEqDiff, ↓reduceIte]) (by simp only [Tr.get_set, Nat.reduceEqDiff, ↓reduceIte]) (by simp only [Tr.get_set, Nat.reduceEqDiff, ↓reduceIte]) (by simp only [Tr.get_set, Nat.reduceEqDiff, ↓reduceIte]) (by simp only [Tr.get_set, Nat.reduceEqDiff, ↓reduceIte]), c1⟩
 ·obtain ⟨h1, a1, e1, r1, c1, c2, c3, k1⟩ := nu h p v l a0 e hngh hr hb ha hl
  have g1 := gq k1
  generalize he : exR (EV tab) olLoop ⟨false, 116, tm, h⟩ = y
  rw [olLoop, exR_loop] at he
  simp only [sS, sevalprocAttr, fF28, tT, sN, subD, ng_eq, tabL_ng, hnp, hnq, hpq, hqp, t5, t6, t7, t8, iLss, hsz, Int.ofNat_lt, hi, decide_true, oIndex, indexD, Int.natCast_nonneg, Int.toNat_natCast, hget, hcc, iEql, Int.cast_ofNat_Int, Int.reduceBEq, had, op_nil, e1, g1] at he
  subst he
  exact ⟨_, _, a1, rfl, fin ⟨xo, xt, xu, (numI (l.drop a0, e)).1, xi, xs'⟩ _ ((KeptX.refl q h1).put _) (by rw [H.get_put, if_pos rfl]; rfl) k1.y1 (hb.keptX k1 hr.nb) r1 c3 (gq k1) (by simp only [Tr.get_set, Nat.reduceEqDiff, ↓reduceIte]) (by simp only [Tr.get_set, Nat.reduceEqDiff, ↓reduceIte]) (by simp only [Tr.get_set, Nat.reduceEqDiff, ↓reduceIte]) (by simp only [Tr.get_set, Nat.reduceEqDiff, ↓reduceIte]) (by simp only [Tr.get_set, Nat.reduceEqDiff, ↓reduceIte]), c1⟩
 ·obtain ⟨h1, a1, e1, r1, c1, c2, c3, k1⟩ := it h p v l a0 e hngh hr hb ha hl
  have g1 := gq k1
  have hle := smallI_le (l.drop a0, e)
  show ∃ tm' h' a1, _ ∧ OlS tab h0 h' tm' p q v l us ⟨xo, xt, xu, xn, sgnN (smallI (l.drop a0, e)).1, xs'⟩ a1 (smallI (l.drop a0, e)).2.2 (i + 1) ∧ l.drop a1 = (smallI (l.drop a0, e)).2.1
  generalize (smallI (l.drop a0, e)).1 = n at e1 hle ⊢
  have f1 := rem2 n
  have f2 := quo2 n hle
  by_cases w : n % 2 = 1
  ·have z : (((n % 2 : Nat) : Int) == 1) = true := by rw [w]; rfl
   have f3 : iAdd .i64 (n : Int) 1 = some (.int .i64 ((n + 1 : Nat) : Int)) := by unfold iAdd; rw [IntWalk.i64_in _ (by omega)]; rfl
   have f4 : iSub .i64 0 ((n + 1 : Nat) : Int) = some (.int .i64 (-((n + 1 : Nat) : Int))) := by unfold iSub; rw [IntWalk.i64_in _ (by omega), Int.zero_sub]
   have f5 := negq n w hle
   have hs : sgnN n = -((n / 2 + 1 : Nat) : Int) := by unfold sgnN; rw [if_pos w]
   rw [hs]
   generalize he : exR (EV tab) olLoop ⟨false, 116, tm, h⟩ = y
   rw [olLoop, exR_loop] at he
   simp only [sS, sevalprocAttr, fF28, tT, sN, subD, ng_eq, tabL_ng, hnp, hnq, hpq, hqp, t5, t6, t7, t8, iLss, hsz, Int.ofNat_lt, hi, decide_true, oIndex, indexD, Int.natCast_nonneg, Int.toNat_natCast, hget, hcc, iEql, Int.cast_ofNat_Int, Int.reduceBEq, had, op_nil, e1, g1, f1, f2, f3, f4, f5, z] at he
   subst he
   exact ⟨_, _, a1, rfl, fin ⟨xo, xt, xu, xn, -((n / 2 + 1 : Nat) : Int), xs'⟩ _ (((KeptX.refl q h1).put _).put _) (by rw [H.get_put, if_pos rfl]; rfl) k1.y1 (hb.keptX k1 hr.nb) r1 c3 (gq k1) (by simp only [Tr.get_set, Nat.reduceEqDiff, ↓reduceIte]) (by simp only [Tr.get_set, Nat.reduceEqDiff, ↓reduceIte]) (by simp only [Tr.get_set, Nat.reduceEqDiff, ↓reduceIte]) (by simp only [Tr.get_set, Nat.reduceEqDiff, ↓reduceIte]) (by simp only [Tr.get_set, Nat.reduceEqDiff, ↓reduceIte]), c1⟩
  ·have z : (((n % 2 : Nat) : Int) == 1) = false := by rw [beq_eq_false_iff_ne]; omega
   have hs : sgnN n = ((n / 2 : Nat) : Int) := by unfold sgnN; rw [if_neg w]
   rw [hs]
   generalize he : exR (EV tab) olLoop ⟨false, 116, tm, h⟩ = y
   rw [olLoop, exR_loop] at he
   simp only [sS, sevalprocAttr, fF28, tT, sN, subD, ng_eq, tabL_ng, hnp, hnq, hpq, hqp, t5, t6, t7, t8, iLss, hsz, Int.ofNat_lt, hi, decide_true, oIndex, indexD, Int.natCast_nonneg, Int.toNat_natCast, hget, hcc, iEql, Int.cast_ofNat_Int, Int.reduceBEq, had, op_nil, e1, g1, f1, f2, z] at he
   subst he
   exact ⟨_, _, a1, rfl, fin ⟨xo, xt, xu, xn, ((n / 2 : Nat) : Int), xs'⟩ _ ((KeptX.refl q h1).put _) (by rw [H.get_put, if_pos rfl]; rfl) k1.y1 (hb.keptX k1 hr.nb) r1 c3 (gq k1) (by simp only [Tr.get_set, Nat.reduceEqDiff, ↓reduceIte]) (by simp only [Tr.get_set, Nat.reduceEqDiff, ↓reduceIte]) (by simp only [Tr.get_set, Nat.reduceEqDiff, ↓reduceIte]) (by simp only [Tr.get_set, Nat.reduceEqDiff, ↓reduceIte]) (by simp only [Tr.get_set, Nat.reduceEqDiff, ↓reduceIte]), c1⟩
 ·obtain ⟨w, h1, a1, e1, b1, r1, c1, c2, c3, k1⟩ := tk h p v l a0 e 4 hngh (by decide) hr hb ha hl
  have g1 := gq k1
  have tl := takeR_len 4 (l.drop a0, e)
  have e2 := signedq_run tab xs xl h1 w _ b1 (by omega) (by intro z; rw [z] at tl; cases tl)
  have e1 : callR (EV tab) 52 [.pointer (some ⟨p, 0, none⟩), .int .i64 4] h = some (w, h1) := e1
  generalize he : exR (EV tab) olLoop ⟨false, 116, tm, h⟩ = y
  rw [olLoop, exR_loop] at he
  simp only [sS, sevalprocAttr, fF28, tT, sN, subD, ng_eq, tabL_ng, hnp, hnq, hpq, hqp, t5, t6, t7, t8, iLss, hsz, Int.ofNat_lt, hi, decide_true, oIndex, indexD, Int.natCast_nonneg, Int.toNat_natCast, hget, hcc, iEql, Int.cast_ofNat_Int, Int.reduceBEq, had, op_nil, e1, e2, g1] at he
  subst he
  exact ⟨_, _, a1, rfl, fin ⟨xo, xt, xu, xn, s32 (fixI 4 (l.drop a0, e)).1, xs'⟩ _ ((KeptX.refl q h1).put _) (by rw [H.get_put, if_pos rfl]; rfl) k1.y1 (hb.keptX k1 hr.nb) r1 c3 (gq k1) (by simp only [Tr.get_set, Nat.reduceEqDiff, ↓reduceIte]) (by simp only [Tr.get_set, Nat.reduceEqDiff, ↓reduceIte]) (by simp only [Tr.get_set, Nat.reduceEqDiff, ↓reduceIte]) (by simp only [Tr.get_set, Nat.reduceEqDiff, ↓reduceIte]) (by simp only [Tr.get_set, Nat.reduceEqDiff, ↓reduceIte]), c1⟩
 ·obtain ⟨w, h1, a1, e1, b1, r1, c1, c2, c3, k1⟩ := tk h p v l a0 e 8 hngh (by decide) hr hb ha hl
  have g1 := gq k1
  have tl := takeR_len 8 (l.drop a0, e)
  have e2 := littleq_run tab xl h1 w _ b1 (by omega) (by intro z; rw [z] at tl; cases tl)
  have e1 : callR (EV tab) 52 [.pointer (some ⟨p, 0, none⟩), .int .i64 8] h = some (w, h1) := e1
  generalize he : exR (EV tab) olLoop ⟨false, 116, tm, h⟩ = y
  rw [olLoop, exR_loop] at he
  simp only [sS, sevalprocAttr, fF28, tT, sN, subD, ng_eq, tabL_ng, hnp, hnq, hpq, hqp, t5, t6, t7, t8, iLss, hsz, Int.ofNat_lt, hi, decide_true, oIndex, indexD, Int.natCast_nonneg, Int.toNat_natCast, hget, hcc, iEql, Int.cast_ofNat_Int, Int.reduceBEq, had, op_nil, e1, e2, g1] at he
  subst he
  exact ⟨_, _, a1, rfl, fin ⟨xo, xt, xu, (fixI 8 (l.drop a0, e)).1, xi, xs'⟩ _ ((KeptX.refl q h1).put _) (by rw [H.get_put, if_pos rfl]; rfl) k1.y1 (hb.keptX k1 hr.nb) r1 c3 (gq k1) (by simp only [Tr.get_set, Nat.reduceEqDiff, ↓reduceIte]) (by simp only [Tr.get_set, Nat.reduceEqDiff, ↓reduceIte]) (by simp only [Tr.get_set, Nat.reduceEqDiff, ↓reduceIte]) (by simp only [Tr.get_set, Nat.reduceEqDiff, ↓reduceIte]) (by simp only [Tr.get_set, Nat.reduceEqDiff, ↓reduceIte]), c1⟩
 ·obtain ⟨h1, a1, e1, r1, c1, c2, c3, k1⟩ := it h p v l a0 e hngh hr hb ha hl
  have g1 := gq k1
  have hb1 := hb.keptX k1 hr.nb
  have nb1 : NB h1 q := nb_cells g1 (by decide)
  have kq1 : KeptX q h1 (h1.put q (.cells 44 6 [.int .i64 xo, .string ⟨⟨xt⟩⟩, .string ⟨⟨xu⟩⟩, .int .u64 xn, .int .i64 ((smallI (l.drop a0, e)).1 : Nat), .int .i64 xs'])) := (KeptX.refl q h1).put _
  have hl1 : tab.ng ≤ h1.next := Nat.le_trans hngh k1.le
  obtain ⟨h2, a2, e2, r2, d1, d2, d3, k2⟩ := nu (h1.put q (.cells 44 6 [.int .i64 xo, .string ⟨⟨xt⟩⟩, .string ⟨⟨xu⟩⟩, .int .u64 xn, .int .i64 ((smallI (l.drop a0, e)).1 : Nat), .int .i64 xs'])) p v l a1 _ hl1 (r1.keep kq1 hqp) (hb1.keptX kq1 nb1) c3 hl
  have g2 : h2.get q = some (.cells 44 6 [.int .i64 xo, .string ⟨⟨xt⟩⟩, .string ⟨⟨xu⟩⟩, .int .u64 xn, .int .i64 ((smallI (l.drop a0, e)).1 : Nat), .int .i64 xs']) := by rw [k2.get q (Nat.lt_of_lt_of_le hq (Nat.le_trans k1.le kq1.le)) hpq, H.get_put, if_pos rfl]
  have hb2 := (hb1.keptX kq1 nb1).keptX k2 (r1.keep kq1 hqp).nb
  have nb2 : NB h2 q := nb_cells g2 (by decide)
  rw [c1] at e2 r2 d1
  have kq2 : KeptX q h2 (h2.put q (.cells 44 6 [.int .i64 xo, .string ⟨⟨xt⟩⟩, .string ⟨⟨xu⟩⟩, .int .u64 ((numI (smallI (l.drop a0, e)).2).1 : Nat), .int .i64 ((smallI (l.drop a0, e)).1 : Nat), .int .i64 xs'])) := (KeptX.refl q h2).put _
  have hl2 : tab.ng ≤ h2.next := Nat.le_trans hl1 k2.le
  obtain ⟨h3, a3, e3, r3, f1, f2, f3, k3⟩ := it (h2.put q (.cells 44 6 [.int .i64 xo, .string ⟨⟨xt⟩⟩, .string ⟨⟨xu⟩⟩, .int .u64 ((numI (smallI (l.drop a0, e)).2).1 : Nat), .int .i64 ((smallI (l.drop a0, e)).1 : Nat), .int .i64 xs'])) p v l a2 _ hl2 (r2.keep kq2 hqp) (hb2.keptX kq2 nb2) d3 hl
  have g3 : h3.get q = some (.cells 44 6 [.int .i64 xo, .string ⟨⟨xt⟩⟩, .string ⟨⟨xu⟩⟩, .int .u64 ((numI (smallI (l.drop a0, e)).2).1 : Nat), .int .i64 ((smallI (l.drop a0, e)).1 : Nat), .int .i64 xs']) := by rw [k3.get q (Nat.lt_of_lt_of_le hq (Nat.le_trans k1.le (Nat.le_trans k2.le kq2.le))) hpq, H.get_put, if_pos rfl]
  have hb3 := (hb2.keptX kq2 nb2).keptX k3 (r2.keep kq2 hqp).nb
  rw [d1] at e3 r3 f1
  have k4 : KeptY p q h h3 := ((((k1.y1).trans kq1.y2).trans k2.y1).trans kq2.y2).trans k3.y1
  have e2' : callR (EV tab) 49 [.pointer (some ⟨p, 0, none⟩)] (h1.put q (.cells 44 6 [.int .i64 xo, .string ⟨⟨xt⟩⟩, .string ⟨⟨xu⟩⟩, .int .u64 xn, .int .i64 ((smallI (l.drop a0, e)).1 : Nat), .int .i64 xs'])) = some (.int .u64 ((numI (smallI (l.drop a0, e)).2).1 : Nat), h2) := e2
  have e3' : callR (EV tab) 50 [.pointer (some ⟨p, 0, none⟩)] (h2.put q (.cells 44 6 [.int .i64 xo, .string ⟨⟨xt⟩⟩, .string ⟨⟨xu⟩⟩, .int .u64 ((numI (smallI (l.drop a0, e)).2).1 : Nat), .int .i64 ((smallI (l.drop a0, e)).1 : Nat), .int .i64 xs'])) = some (.int .i64 ((smallI (numI (smallI (l.drop a0, e)).2).2).1 : Nat), h3) := e3
  generalize he : exR (EV tab) olLoop ⟨false, 116, tm, h⟩ = y
  rw [olLoop, exR_loop] at he
  simp only [sS, sevalprocAttr, fF28, tT, sN, subD, ng_eq, tabL_ng, hnp, hnq, hpq, hqp, t5, t6, t7, t8, iLss, hsz, Int.ofNat_lt, hi, decide_true, oIndex, indexD, Int.natCast_nonneg, Int.toNat_natCast, hget, hcc, iEql, Int.cast_ofNat_Int, Int.reduceBEq, had, op_nil, e1, e2', e3', g1, g2, g3] at he
  subst he
  exact ⟨_, _, a3, rfl, fin ⟨xo, xt, xu, (numI (smallI (l.drop a0, e)).2).1, ((smallI (l.drop a0, e)).1 : Nat), ((smallI (numI (smallI (l.drop a0, e)).2).2).1 : Nat)⟩ _ ((KeptX.refl q h3).put _) (by rw [H.get_put, if_pos rfl]; rfl) k4 hb3 r3 f3 g3 (by simp only [Tr.get_set, Nat.reduceEqDiff, ↓reduceIte]) (by simp only [Tr.get_set, Nat.reduceEqDiff, ↓reduceIte]) (by simp only [Tr.get_set, Nat.reduceEqDiff, ↓reduceIte]) (by simp only [Tr.get_set, Nat.reduceEqDiff, ↓reduceIte]) (by simp only [Tr.get_set, Nat.reduceEqDiff, ↓reduceIte]), f1⟩
end Go.D
