/- The functions of the law, one after the other: what a run of D answers. -/
import Derived.Test.YtmjdhbenplpinaaGreatDoorWd
import Derived.Test.YtmjdhbenplpinaaGreatDoorFull
import Derived.Test.YtmjdhbenplpinaaGreatDoorW0
import Derived.Laws.RangeString
import Derived.Laws.RangeAny
import Derived.Laws.StructEq
namespace Go.D
open Go.Proofs
set_option maxRecDepth 100000
set_option linter.unusedVariables false
set_option linter.unusedSimpArgs false
def numL (n : Nat) : List UInt8 := if n < 128 then [UInt8.ofNat n] else UInt8.ofNat (n % 128 + 128) :: numL (n / 128)
termination_by n
decreasing_by omega
theorem or128 (n : Nat) : IntKind.u8.wrap ↑(BitVec.ofInt IntKind.u8.bits (IntKind.u8.wrap (n : Int)) ||| BitVec.ofInt IntKind.u8.bits 128).toNat = ((UInt8.ofNat (n % 128 + 128)).toNat : Int) := by
 have key : ∀ m : Fin 256, (BitVec.ofInt 8 (m.val : Int) ||| BitVec.ofInt 8 128).toNat = m.val % 128 + 128 := by decide
 have hw : IntKind.u8.wrap (n : Int) = ((n % 256 : Nat) : Int) := by rw [IntKind.wrap_u8]; omega
 rw [hw]
 have hm := key ⟨n % 256, Nat.mod_lt _ (by decide)⟩
 show IntKind.u8.wrap ((BitVec.ofInt 8 ((n % 256 : Nat) : Int) ||| BitVec.ofInt 8 128).toNat : Int) = _
 rw [hm, IntKind.wrap_u8]
 simp only [UInt8.toNat_ofNat']
 omega
theorem u64_nat (n : Nat) (h : n < 18446744073709551616) : IntKind.u64.wrap (n : Int) = n := IntWalk.u64_in _ ⟨by omega, by omega⟩
theorem shr7 (n : Nat) : iShr .u64 (n : Int) 7 = some (.int .u64 ((n / 128 : Nat) : Int)) := by
 unfold iShr
 rw [if_neg (by decide)]
 have h1 : (2 : Int) ^ (min (7 : Int).toNat IntKind.u64.bits) = 128 := rfl
 have h2 : (n : Int).fdiv 128 = ((n / 128 : Nat) : Int) := by rw [Int.fdiv_eq_ediv_of_nonneg _ (by decide)]; rfl
 rw [h1, h2]
theorem rem128 (n : Nat) : iRem .u64 (n : Int) 128 = some (.int .u64 ((n % 128 : Nat) : Int)) := by
 unfold iRem
 rw [if_neg (by decide)]
 rfl
theorem quo128 (n : Nat) (h : n < 18446744073709551616) : iQuo .u64 (n : Int) 128 = some (.int .u64 ((n / 128 : Nat) : Int)) := by
 unfold iQuo
 rw [if_neg (by decide)]
 have h2 : (n : Int).tdiv 128 = ((n / 128 : Nat) : Int) := rfl
 rw [h2, u64_nat _ (by omega)]
theorem low128 (n : Nat) : iAdd .u8 (IntKind.u8.wrap ((n % 128 : Nat) : Int)) 128 = some (.int .u8 ((UInt8.ofNat (n % 128 + 128)).toNat : Int)) := by
 unfold iAdd
 rw [IntKind.wrap_u8, IntKind.wrap_u8, UInt8.toNat_ofNat']
 congr 2
 omega
noncomputable def loop5 : Code := (.loop (.seq (.seq (Rg 87 2) (.cond (Operand.tmp 5) .skip (.exit 0))) (.block 1 (.seq (Rg 87 3) (Rg 87 4)))))
theorem num5_exit (tab : Tab) (n : Nat) (tm : Tr Value) (h : H) (v : Value) (hlt : n < 128) (t0 : tm.get 0 = some (.int .u64 n)) (t3 : tm.get 3 = some v) :
  ∃ tm', exR (EV tab) loop5 ⟨false, 19, tm, h⟩ = some (.exit 0, ⟨false, 19, tm', h⟩) ∧ tm'.get 0 = some (.int .u64 n) ∧ tm'.get 3 = some v := by
 have hge : ¬ (128 : Int) ≤ n := by omega
 generalize he : exR (EV tab) loop5 ⟨false, 19, tm, h⟩ = r
 rw [loop5, exR_loop] at he
 simp only [sS, sevalprocAttr, fF87, tT, t0, t3, iGeq, ge_iff_le, hge, decide_false] at he
 subst he
 exact ⟨_, rfl, by simp only [Tr.get_set, Nat.reduceEqDiff, ↓reduceIte, t0], by simp only [Tr.get_set, Nat.reduceEqDiff, ↓reduceIte, t3]⟩
theorem new_bytes (tab : Tab) (h : H) (l : List UInt8) (n b c : Nat) (hb : tab.ng ≤ b) (hg : h.get b = some (.cells 5 1 (bs l))) (hn : l.length = n) (z : List Value) : newD (EV tab) h z 1 false (.slice (some ⟨b, 0, none⟩) n c) = some (bs l, n) := by
 subst hn
 unfold newD
 simp only [Bool.false_eq_true, if_false, lenOfD, srcD, subD, ng_eq, tabL_ng, Nat.not_lt.2 hb, Nat.mul_one, hg, sub_bs]
theorem num5_round (tab : Tab) (h0 : H) (hng : tab.ng ≤ h0.next) (n : Nat) (tm : Tr Value) (h : H) (v : Value) (l : List UInt8) (hlt : ¬ n < 128) (hu : n < 18446744073709551616) (t0 : tm.get 0 = some (.int .u64 n)) (t3 : tm.get 3 = some v)
  (hr : Row h0 h 5 1 v l.length (bs l)) (hk : Kept h0 h) (hl : l.length ≤ 1000) :
  ∃ tm' h' v', exR (EV tab) loop5 ⟨false, 19, tm, h⟩ = exR (EV tab) loop5 ⟨false, 19, tm', h'⟩ ∧ tm'.get 0 = some (.int .u64 ((n / 128 : Nat) : Int)) ∧ tm'.get 3 = some v' ∧
   Row h0 h' 5 1 v' (l ++ [UInt8.ofNat (n % 128 + 128)]).length (bs (l ++ [UInt8.ofNat (n % 128 + 128)])) ∧ Kept h0 h' := by
 have hge : (128 : Int) ≤ n := by omega
 obtain ⟨v', h', e, r, k⟩ := append_row (E := EV tab) (t := 49) (ti49 tab) rfl (ti5 tab) rfl (by rw [bt_eq]; show (5 : Nat) ≠ 82; decide) hng (hr.kept (Kept.push (Kept.refl h) (.cells 5 1 (bs [UInt8.ofNat (n % 128 + 128)])))) (hk.push _)
  (new_bytes tab (h.push (.cells 5 1 (bs [UInt8.ofNat (n % 128 + 128)]))) [UInt8.ofNat (n % 128 + 128)] 1 h.next 3 (Nat.le_trans hng hk.le) (H.get_push_self _ _) rfl _) (bs_one _) (by decide) (by omega) rfl
 generalize he : exR (EV tab) loop5 ⟨false, 19, tm, h⟩ = r0
 rw [loop5, exR_loop] at he
 have e' : appendD (EV tab) (h.push (Obj.cells 5 1 [Value.int IntKind.u8 ↑(UInt8.ofNat (n % 128 + 128)).toNat])) 49 false v (Value.slice (some { block := h.next, off := 0 }) 1 3) = some (v', h') := e
 simp only [sS, sevalprocAttr, fF87, tT, t0, t3, iGeq, ge_iff_le, hge, decide_true, iOr, or128, shr7 n, e'] at he
 subst he
 refine ⟨_, h', v', rfl, by simp only [Tr.get_set, Nat.reduceEqDiff, ↓reduceIte], by simp only [Tr.get_set, Nat.reduceEqDiff, ↓reduceIte], ?_, k⟩
 rw [bs_append, List.length_append]
 exact r
theorem num5_loop (tab : Tab) (h0 : H) (hng : tab.ng ≤ h0.next) : ∀ (k n : Nat) (tm : Tr Value) (h : H) (v : Value) (l : List UInt8), n < 128 ^ (k + 1) → n < 18446744073709551616 → tm.get 0 = some (.int .u64 n) → tm.get 3 = some v →
  Row h0 h 5 1 v l.length (bs l) → Kept h0 h → l.length + k ≤ 1000 →
  ∃ tm' h' v' n' pre, exR (EV tab) loop5 ⟨false, 19, tm, h⟩ = some (.exit 0, ⟨false, 19, tm', h'⟩) ∧
   tm'.get 0 = some (.int .u64 (n' : Nat)) ∧ tm'.get 3 = some v' ∧ n' < 128 ∧ numL n = pre ++ [UInt8.ofNat n'] ∧ Row h0 h' 5 1 v' (l ++ pre).length (bs (l ++ pre)) ∧ Kept h0 h' ∧ (l ++ pre).length ≤ 1000 := by
 intro k
 induction k with
 | zero =>
  intro n tm h v l hn hu t0 t3 hr hk hl
  obtain ⟨tm', e, a, b⟩ := num5_exit tab n tm h v hn t0 t3
  exact ⟨tm', h, v, n, [], e, a, b, hn, by rw [numL, if_pos hn]; rfl, by simpa using hr, hk, by simpa using hl⟩
 | succ k ih =>
  intro n tm h v l hn hu t0 t3 hr hk hl
  by_cases hlt : n < 128
  ·obtain ⟨tm', e, a, b⟩ := num5_exit tab n tm h v hlt t0 t3
   exact ⟨tm', h, v, n, [], e, a, b, hlt, by rw [numL, if_pos hlt]; rfl, by simpa using hr, hk, by simp; omega⟩
  ·obtain ⟨tm1, h1, v1, e, a, b, r, kk⟩ := num5_round tab h0 hng n tm h v l hlt hu t0 t3 hr hk (by omega)
   rw [e, numL, if_neg hlt]
   obtain ⟨tm', h', v', n', pre, x1, x2, x3, x4, x5, x6, x7, x8⟩ := ih (n / 128) tm1 h1 v1 _ (Nat.div_lt_of_lt_mul (by rw [Nat.pow_succ, Nat.mul_comm] at hn; exact hn)) (by omega) a b r kk (by simp; omega)
   exact ⟨tm', h', v', n', UInt8.ofNat (n % 128 + 128) :: pre, x1, x2, x3, x4, by rw [x5]; rfl, by simpa using x6, x7, by simpa using x8⟩
theorem num5 (tab : Tab) (hx : ∀ l, callExt (EV tab) 87 l = none) (n : Nat) (hu : n < 18446744073709551616) (h : H) (hng : tab.ng ≤ h.next) :
  ∃ v' h', callR (EV tab) 87 [.int .u64 n] h = some (v', h') ∧ Row h h' 5 1 v' (numL n).length (bs (numL n)) ∧ Kept h h' := by
 generalize he : callR (EV tab) 87 [.int .u64 n] h = r0
 rw [enter87 tab _ h (hx _) rfl] at he
 obtain ⟨tm1, h1, v1, n1, pre, x1, x2, x3, x4, x5, x6, x7, x8⟩ := num5_loop tab h hng 9 n (((Tr.leaf.set 0 (.int .u64 n)).set 2 (.slice none 0 0)).set 3 (.slice none 0 0)) h (.slice none 0 0) [] (by omega) hu
  (by simp only [Tr.get_set, Nat.reduceEqDiff, ↓reduceIte]) (by simp only [Tr.get_set, Nat.reduceEqDiff, ↓reduceIte]) (Row.nil _ _ _ _) (Kept.refl h) (by decide)
 have hw : IntKind.u8.wrap (n1 : Int) = ((UInt8.ofNat n1).toNat : Int) := by rw [IntKind.wrap_u8, UInt8.toNat_ofNat']; omega
 obtain ⟨v2, h2, e, r, k⟩ := append_row (E := EV tab) (t := 49) (ti49 tab) rfl (ti5 tab) rfl (by rw [bt_eq]; show (5 : Nat) ≠ 82; decide) hng (x6.kept (Kept.push (Kept.refl h1) (.cells 5 1 (bs [UInt8.ofNat n1])))) (x7.push _)
  (new_bytes tab (h1.push (.cells 5 1 (bs [UInt8.ofNat n1]))) [UInt8.ofNat n1] 1 h1.next 3 (Nat.le_trans hng x7.le) (H.get_push_self _ _) rfl _) (bs_one _) (by decide) (by omega) rfl
 have e' : appendD (EV tab) (h1.push (Obj.cells 5 1 [Value.int IntKind.u8 ↑(UInt8.ofNat n1).toNat])) 49 false v1 (Value.slice (some { block := h1.next, off := 0 }) 1 3) = some (v2, h2) := e
 have x1' := x1
 rw [loop5] at x1'
 simp only [exR_seq, exR_block, r87_0, r87_1, runS_op, oq, mq, tq, cq, runS_nil, contS_some, wantedS_none, guardS_true, op_assign, ev_snil, same_some, putS_some, Nat.reduceLT, norm_some, andThen_normal, ofArgs, x1', unblock_exit, if_true] at he
 simp only [sS, sevalprocAttr, r87_5, tT, x2, x3, hw, e'] at he
 subst he
 refine ⟨v2, h2, rfl, ?_, k⟩
 rw [List.nil_append] at r
 rw [x5, bs_append, List.length_append]
 exact r
def Bytes (h0 h : H) (v : Value) (l : List UInt8) : Prop :=
 ∃ b c, v = .slice (some ⟨b, 0, none⟩) l.length c ∧ h0.next ≤ b ∧ b < h.next ∧ h.get b = some (.cells 5 1 (bs l))
theorem low6 (n : Nat) (h : n < 128) : IntKind.u8.wrap (n : Int) = ((UInt8.ofNat n).toNat : Int) := by rw [IntKind.wrap_u8, UInt8.toNat_ofNat']; omega
theorem numL_ne (n : Nat) : (numL n).length ≠ 0 := by rw [numL]; split <;> simp
theorem numL_le : ∀ (k n : Nat), n < 128 ^ (k + 1) → (numL n).length ≤ k + 1
 | 0, n, h => by rw [numL, if_pos h]; simp
 | k + 1, n, h => by
  rw [numL]
  split
  ·simp
  ·have := numL_le k (n / 128) (Nat.div_lt_of_lt_mul (by rw [Nat.pow_succ, Nat.mul_comm] at h; exact h))
   simp only [List.length_cons]; omega
theorem num6 (tab : Tab) (hx : ∀ l, callExt (EV tab) 57 l = none) : ∀ (k n : Nat) (h : H), n < 128 ^ (k + 1) → k ≤ 100 → n < 18446744073709551616 → tab.ng ≤ h.next →
  ∃ v' h', callR (EV tab) 57 [.int .u64 n] h = some (v', h') ∧ Bytes h h' v' (numL n) ∧ Kept h h'
 | 0, n, h, hk, _, hu, hng => by
  have hlt : (n : Int) < 128 := by omega
  generalize he : callR (EV tab) 57 [.int .u64 n] h = r0
  rw [enter57 tab _ h (hx _) rfl] at he
  simp only [sS, sevalprocAttr, fF57, tT, iLss, hlt, decide_true, low6 n hk] at he
  subst he
  refine ⟨_, _, rfl, ⟨h.next, 3, ?_, Nat.le_refl _, Nat.lt_succ_self _, ?_⟩, (Kept.refl h).push _⟩
  ·rw [numL, if_pos hk]; rfl
  ·rw [numL, if_pos hk]; exact H.get_push_self _ _
 | k + 1, n, h, hk, hk1, hu, hng => by
  by_cases hlt0 : n < 128
  ·have hlt : (n : Int) < 128 := by omega
   generalize he : callR (EV tab) 57 [.int .u64 n] h = r0
   rw [enter57 tab _ h (hx _) rfl] at he
   simp only [sS, sevalprocAttr, fF57, tT, iLss, hlt, decide_true, low6 n hlt0] at he
   subst he
   refine ⟨_, _, rfl, ⟨h.next, 3, ?_, Nat.le_refl _, Nat.lt_succ_self _, ?_⟩, (Kept.refl h).push _⟩
   ·rw [numL, if_pos hlt0]; rfl
   ·rw [numL, if_pos hlt0]; exact H.get_push_self _ _
  ·have hlt : ¬ (n : Int) < 128 := by omega
   have hk2 : n / 128 < 128 ^ (k + 1) := Nat.div_lt_of_lt_mul (by rw [Nat.pow_succ, Nat.mul_comm] at hk; exact hk)
   obtain ⟨v1, h1, e1, ⟨b, c, rfl, hb1, hb2, hb3⟩, k1⟩ := num6 tab hx k (n / 128) (h.push (.cells 5 1 [.int .u8 ((UInt8.ofNat (n % 128 + 128)).toNat : Int)])) hk2 (by omega) (by omega) (by rw [H.next_push]; omega)
   rw [H.next_push] at hb1
   have hg : h1.get h.next = some (.cells 5 1 [.int .u8 ((UInt8.ofNat (n % 128 + 128)).toNat : Int)]) := by
    rw [k1.get _ (by rw [H.next_push]; omega)]; exact H.get_push_self _ _
   have hnw := new_bytes tab h1 (numL (n / 128)) _ b c (by omega) hb3 rfl
   have hl1 := numL_ne (n / 128)
   have hl2 := numL_le k (n / 128) hk2
   have hap : appendD (EV tab) h1 49 false (.slice (some ⟨h.next, 0, none⟩) 1 3) (.slice (some ⟨b, 0, none⟩) (numL (n / 128)).length c) =
     some (.slice (some ⟨h1.next, 0, none⟩) (1 + (numL (n / 128)).length) 0, h1.push (.cells 5 1 ([.int .u8 ((UInt8.ofNat (n % 128 + 128)).toNat : Int)] ++ bs (numL (n / 128))))) :=
    append_full (ti49 tab) rfl (ti5 tab) rfl (show tab.ng ≤ h.next from hng) hg rfl (hnw _) (bs_one _) (by omega) (by decide) (by rw [bs_length, Nat.mul_one]) (by decide) (by omega)
   have hnl : numL n = UInt8.ofNat (n % 128 + 128) :: numL (n / 128) := by rw [numL, if_neg hlt0]
   generalize he : callR (EV tab) 57 [.int .u64 n] h = r0
   rw [enter57 tab _ h (hx _) rfl] at he
   simp only [sS, sevalprocAttr, fF57, tT, iLss, hlt, decide_false, rem128, quo128 n hu, low128, e1, hap] at he
   subst he
   refine ⟨_, _, rfl, ⟨h1.next, 0, ?_, ?_, Nat.lt_succ_self _, ?_⟩, ?_⟩
   ·rw [hnl, List.length_cons, Nat.add_comm 1]
   ·have := k1.le; rw [H.next_push] at this; omega
   ·rw [H.get_push_self, hnl]; rfl
   ·exact ((((Kept.refl h).push _).trans k1).push _)
def zz (s : Int) : Nat := if s < 0 then (-2 * s - 1).toNat else (2 * s).toNat
def zigV : Spec
 | [.int .i64 s] => if -2147483648 ≤ s ∧ s < 2147483648 then some (.int .u64 (zz s : Nat)) else none
 | _ => none
theorem f_zigzag {T : List (Nat × Spec)} (hT : Fine T) (hx : ∀ l, callExt (EV (tabL T)) 88 l = none) : Fine ((88, zigV) :: T) :=
 hT.step (F := Tryz.f88) (by kernel_rfl) (by kernel_rfl) hx fun args v hv => by
  unfold zigV at hv
  split at hv
  ·rename_i s
   split at hv
   ·rename_i hs
    cases hv
    refine ⟨rfl, rfl, ?_⟩
    generalize he : callR _ _ _ _ = r
    rw [enter88 _ _ _ (hx _) rfl] at he
    unfold zz
    by_cases q : s < 0
    ·rw [if_pos q]
     have d : decide (s < 0) = true := decide_eq_true q
     have m1 : iMul .i64 (-2) s = some (.int .i64 (-2 * s)) := by unfold iMul; rw [IntWalk.i64_in _ (by omega)]
     have m2 : iSub .i64 (-2 * s) 1 = some (.int .i64 (-2 * s - 1)) := by unfold iSub; rw [IntWalk.i64_in _ (by omega)]
     have m3 : IntKind.u64.wrap (-2 * s - 1) = (((-2 * s - 1).toNat : Nat) : Int) := by rw [IntWalk.u64_in _ (by omega)]; omega
     simp only [sS, sevalprocAttr, fF88, tT, sN, sM, ng_eq, tabL_ng, h0_next, iLss, d, m1, m2, m3] at he
     subst he
     exact ⟨_, rfl⟩
    ·rw [if_neg q]
     have d : decide (s < 0) = false := decide_eq_false q
     have m1 : iMul .i64 2 s = some (.int .i64 (2 * s)) := by unfold iMul; rw [IntWalk.i64_in _ (by omega)]
     have m3 : IntKind.u64.wrap (2 * s) = (((2 * s).toNat : Nat) : Int) := by rw [IntWalk.u64_in _ (by omega)]; omega
     simp only [sS, sevalprocAttr, fF88, tT, sN, sM, ng_eq, tabL_ng, h0_next, iLss, d, m1, m3] at he
     subst he
     exact ⟨_, rfl⟩
   ·cases hv
  ·cases hv
theorem f_signed26 {T : List (Nat × Spec)} (hT : Fine T) (hx : ∀ l, callExt (EV (tabL T)) 58 l = none) : Fine ((58, zigV) :: T) :=
 hT.step (F := Tryz.f58) (by kernel_rfl) (by kernel_rfl) hx fun args v hv => by
  unfold zigV at hv
  split at hv
  ·rename_i s
   split at hv
   ·rename_i hs
    cases hv
    refine ⟨rfl, rfl, ?_⟩
    generalize he : callR _ _ _ _ = r
    rw [enter58 _ _ _ (hx _) rfl] at he
    unfold zz
    by_cases q : s < 0
    ·rw [if_pos q]
     have d : decide (s < 0) = true := decide_eq_true q
     have m1 : iMul .i64 (-2) s = some (.int .i64 (-2 * s)) := by unfold iMul; rw [IntWalk.i64_in _ (by omega)]
     have m2 : iSub .i64 (-2 * s) 1 = some (.int .i64 (-2 * s - 1)) := by unfold iSub; rw [IntWalk.i64_in _ (by omega)]
     have m3 : IntKind.u64.wrap (-2 * s - 1) = (((-2 * s - 1).toNat : Nat) : Int) := by rw [IntWalk.u64_in _ (by omega)]; omega
     simp only [sS, sevalprocAttr, fF58, tT, sN, sM, ng_eq, tabL_ng, h0_next, iLss, d, m1, m2, m3] at he
     subst he
     exact ⟨_, rfl⟩
    ·rw [if_neg q]
     have d : decide (s < 0) = false := decide_eq_false q
     have m1 : iMul .i64 2 s = some (.int .i64 (2 * s)) := by unfold iMul; rw [IntWalk.i64_in _ (by omega)]
     have m3 : IntKind.u64.wrap (2 * s) = (((2 * s).toNat : Nat) : Int) := by rw [IntWalk.u64_in _ (by omega)]; omega
     simp only [sS, sevalprocAttr, fF58, tT, sN, sM, ng_eq, tabL_ng, h0_next, iLss, d, m1, m3] at he
     subst he
     exact ⟨_, rfl⟩
   ·cases hv
  ·cases hv
theorem app1 (tab : Tab) {h0 h : H} (hng : tab.ng ≤ h0.next) {v : Value} {l : List UInt8} (hr : Row h0 h 5 1 v l.length (bs l)) (hk : Kept h0 h) (hl : l.length ≤ 1000000) (b : UInt8) :
  ∃ v' h', appendD (EV tab) (h.push (.cells 5 1 [.int .u8 (b.toNat : Nat)])) 49 false v (.slice (some ⟨h.next, 0, none⟩) 1 3) = some (v', h') ∧ Row h0 h' 5 1 v' (l ++ [b]).length (bs (l ++ [b])) ∧ Kept h0 h' := by
 obtain ⟨v', h', e, r, k⟩ := append_row (E := EV tab) (t := 49) (ti49 tab) rfl (ti5 tab) rfl (by rw [bt_eq]; show (5 : Nat) ≠ 82; decide) hng (hr.kept (Kept.push (Kept.refl h) (.cells 5 1 (bs [b])))) (hk.push _)
  (new_bytes tab (h.push (.cells 5 1 (bs [b]))) [b] 1 h.next 3 (Nat.le_trans hng hk.le) (H.get_push_self _ _) rfl _) (bs_one _) (by decide) hl rfl
 refine ⟨v', h', e, ?_, k⟩
 rw [bs_append, List.length_append]
 exact r
def fixL : Nat → Nat → List UInt8
 | _, 0 => []
 | n, k + 1 => UInt8.ofNat (n % 256) :: fixL (n / 256) k
theorem fixL_len : ∀ k n, (fixL n k).length = k
 | 0, _ => rfl
 | k + 1, n => by simp [fixL, fixL_len k]
theorem shr8 (n : Nat) : iShr .u64 (n : Int) 8 = some (.int .u64 ((n / 256 : Nat) : Int)) := by
 unfold iShr
 rw [if_neg (by decide)]
 have h1 : (2 : Int) ^ (min (8 : Int).toNat IntKind.u64.bits) = 256 := rfl
 have h2 : (n : Int).fdiv 256 = ((n / 256 : Nat) : Int) := by rw [Int.fdiv_eq_ediv_of_nonneg _ (by decide)]; rfl
 rw [h1, h2]
theorem low256 (n : Nat) : IntKind.u8.wrap (n : Int) = (((UInt8.ofNat (n % 256)).toNat : Nat) : Int) := by rw [IntKind.wrap_u8, UInt8.toNat_ofNat']; omega
noncomputable def fixLoop : Code := .loop (.seq (Rg 89 3) (.seq (.cond (Operand.tmp 8) .skip (Code.exit 0)) (.seq (.block 1 (.seq (Rg 89 4) (Rg 89 5))) (Rg 89 6))))
theorem fix_loop (tab : Tab) (h0 : H) (hng : tab.ng ≤ h0.next) (m : Nat) (hm : m ≤ 1000) : ∀ (k i n : Nat) (tm : Tr Value) (h : H) (v : Value) (l : List UInt8), i + k = m → l.length = i → tm.get 0 = some (.int .u64 n) → tm.get 5 = some v → tm.get 6 = some (.int .i64 m) → tm.get 7 = some (.int .i64 i) →
  Row h0 h 5 1 v l.length (bs l) → Kept h0 h →
  ∃ tm' h' v', exR (EV tab) fixLoop ⟨false, 18, tm, h⟩ = some (.exit 0, ⟨false, 18, tm', h'⟩) ∧ tm'.get 5 = some v' ∧ Row h0 h' 5 1 v' (l ++ fixL n k).length (bs (l ++ fixL n k)) ∧ Kept h0 h' := by
 intro k
 induction k with
 | zero =>
  intro i n tm h v l hi hl t0 t5 t6 t7 hr hk
  have hlt : ¬ i < m := by omega
  generalize he : exR (EV tab) fixLoop ⟨false, 18, tm, h⟩ = r
  rw [fixLoop, exR_loop] at he
  simp only [sS, sevalprocAttr, fF89, tT, t6, t7, iLss, Int.ofNat_lt, hlt, decide_false] at he
  subst he
  refine ⟨_, h, v, rfl, by simp only [Tr.get_set, Nat.reduceEqDiff, ↓reduceIte, t5], ?_, hk⟩
  rw [fixL, List.append_nil]; exact hr
 | succ k ih =>
  intro i n tm h v l hi hl t0 t5 t6 t7 hr hk
  have hlt : i < m := by omega
  obtain ⟨v1, h1, e, r, kk⟩ := app1 tab hng hr hk (by omega) (UInt8.ofNat (n % 256))
  obtain ⟨tm1, e1, a0, a5, a6, a7⟩ : ∃ tm1, exR (EV tab) fixLoop ⟨false, 18, tm, h⟩ = exR (EV tab) fixLoop ⟨false, 18, tm1, h1⟩ ∧ tm1.get 0 = some (.int .u64 ((n / 256 : Nat) : Int)) ∧ tm1.get 5 = some v1 ∧ tm1.get 6 = some (.int .i64 m) ∧ tm1.get 7 = some (.int .i64 ((i + 1 : Nat) : Int)) := by
   generalize he : exR (EV tab) fixLoop ⟨false, 18, tm, h⟩ = r
   rw [fixLoop, exR_loop] at he
   simp only [sS, sevalprocAttr, fF89, tT, t0, t5, t6, t7, iLss, Int.ofNat_lt, hlt, decide_true, low256, e, shr8, add1 i (by omega)] at he
   subst he
   refine ⟨_, rfl, ?_, ?_, ?_, ?_⟩ <;> simp only [Tr.get_set, Nat.reduceEqDiff, ↓reduceIte, t6]
  obtain ⟨tm', h', v', x1, x2, x3, x4⟩ := ih (i + 1) (n / 256) tm1 h1 v1 (l ++ [UInt8.ofNat (n % 256)]) (by omega) (by simp; omega) a0 a5 a6 a7 r kk
  refine ⟨tm', h', v', by rw [e1]; exact x1, x2, ?_, x4⟩
  rw [fixL]
  rw [List.append_assoc] at x3
  exact x3
theorem fixed_run (tab : Tab) (hx : ∀ l, callExt (EV tab) 89 l = none) (n m : Nat) (hm : m ≤ 1000) (h : H) (hng : tab.ng ≤ h.next) :
  ∃ v' h', callR (EV tab) 89 [.int .u64 n, .int .i64 m] h = some (v', h') ∧ Row h h' 5 1 v' m (bs (fixL n m)) ∧ Kept h h' := by
 have key : ∀ tm h1, (h1 = h ∧ tm.get 0 = some (.int .u64 n) ∧ tm.get 5 = some (.slice none 0 0) ∧ tm.get 6 = some (.int .i64 m) ∧ tm.get 7 = some (.int .i64 0)) → ∃ x s', exR (EV tab) fixLoop ⟨false, 18, tm, h1⟩ = some (x, s') ∧
   (x = .exit 0 ∧ ∃ tm' h' v', s' = ⟨false, 18, tm', h'⟩ ∧ tm'.get 5 = some v' ∧ Row h h' 5 1 v' m (bs (fixL n m)) ∧ Kept h h') := fun tm h1 p => by
  obtain ⟨rfl, p0, p5, p6, p7⟩ := p
  obtain ⟨tm', h', v', x1, x2, x3, x4⟩ := fix_loop tab h1 hng m hm m 0 n tm h1 (.slice none 0 0) [] (by omega) rfl p0 p5 p6 p7 (Row.nil _ _ _ _) (Kept.refl h1)
  rw [List.nil_append, fixL_len] at x3
  exact ⟨_, _, x1, rfl, tm', h', v', rfl, x2, x3, x4⟩
 generalize he : callR _ _ _ _ = r
 rw [enter89 _ _ _ (hx _) rfl] at he
 simp only [sS, sevalprocAttr, r89_0, r89_1, r89_2, tT] at he
 obtain ⟨x1, s1, ⟨rfl, tm', h', v', rfl, x2, x3, x4⟩, he⟩ := use_run key (fun o => finish (EV tab) [ResultVar.tmp 4] (andThen (unblock 0 o) (exR (EV tab) (.seq (Rg 89 7) .ret)))) he (by
  refine ⟨rfl, ?_, ?_, ?_, ?_⟩ <;> simp only [Tr.get_set, Nat.reduceEqDiff, ↓reduceIte])
 simp only [sS, sevalprocAttr, fF89, tT, x2] at he
 subst he
 exact ⟨v', h', rfl, x3, x4⟩
def u64 (x : Int) : Nat := (x % 18446744073709551616).toNat
theorem u64_wrap (x : Int) : IntKind.u64.wrap x = ((u64 x : Nat) : Int) := by
 have : IntKind.u64.wrap x = x % 18446744073709551616 := rfl
 rw [this]; unfold u64; omega
def opB (c : Nat) (t u : List UInt8) (num : Nat) (imm size : Int) : List UInt8 :=
 if c = 84 then [UInt8.ofNat (codeT t).1.toNat] else if c = 85 then [UInt8.ofNat (codeT u).1.toNat] else if c = 110 ∨ c = 76 then numL num else if c = 115 then numL (zz imm) else
 if c = 100 then fixL (u64 imm) 4 else if c = 119 then fixL num 8 else if c = 80 then numL imm.toNat else numL size.toNat
theorem row_bytes {h h' : H} {v : Value} {l : List UInt8} {n : Nat} (hn : n = l.length) (r : Row h h' 5 1 v n (bs l)) (hl : l ≠ []) : Bytes h h' v l := by
 subst hn
 rcases r with ⟨_, h2, _⟩ | ⟨b, r1, r2, r3, r4, r5⟩
 ·exact absurd (List.eq_nil_of_length_eq_zero h2) hl
 ·exact ⟨b, 0, r1, r2, r3, r4⟩
theorem Bytes.weak {h h1 h' : H} {v : Value} {l : List UInt8} (b : Bytes h1 h' v l) (k : h.next ≤ h1.next) : Bytes h h' v l := by
 obtain ⟨c, d, r1, r2, r3, r4⟩ := b
 exact ⟨c, d, r1, Nat.le_trans k r2, r3, r4⟩
theorem codeT_byte (s : List UInt8) : IntKind.u8.wrap (codeT s).1 = (((UInt8.ofNat (codeT s).1.toNat).toNat : Nat) : Int) := by
 have h : 0 ≤ (codeT s).1 ∧ (codeT s).1 < 256 := by
  have := opsW_le s
  unfold codeT
  split
  ·exact ⟨by decide, by decide⟩
  ·split
   ·exact ⟨by decide, by decide⟩
   ·split
    ·exact ⟨by decide, by decide⟩
    ·split
     ·exact ⟨by decide, by decide⟩
     ·split
      ·show 0 ≤ (opsW s).1 + (if s.head? = some 105 then 64 else 0) ∧ (opsW s).1 + (if s.head? = some 105 then 64 else 0) < 256
       split <;> omega
      ·exact ⟨Int.le_refl _, by show (0 : Int) < 256; decide⟩
 rw [IntKind.wrap_u8, UInt8.toNat_ofNat']
 omega
theorem zz_lt (s : Int) (h : -2147483648 ≤ s ∧ s < 2147483648) : zz s < 18446744073709551616 := by
 unfold zz; split <;> omega
theorem fixL_ne (n k : Nat) : fixL n (k + 1) ≠ [] := by simp [fixL]
theorem numL_nil (n : Nat) : numL n ≠ [] := fun h => numL_ne n (by rw [h]; rfl)
structure Ops (tab : Tab) : Prop where
 x1 : ∀ l, callExt (EV tab) 55 l = none
 x2 : ∀ l, callExt (EV tab) 87 l = none
 x3 : ∀ l, callExt (EV tab) 89 l = none
 code : ∀ s h, callR (EV tab) 60 [.string ⟨⟨s⟩⟩] h = some (.tuple ⟨[.int .i64 (codeT s).1, .int .i64 (codeT s).2]⟩, h)
 zig : ∀ s h, -2147483648 ≤ s ∧ s < 2147483648 → callR (EV tab) 88 [.int .i64 s] h = some (.int .u64 (zz s : Nat), h)
theorem operand_run (tab : Tab) (hO : Ops tab) (h : H) (hng : tab.ng ≤ h.next) (op : Int) (t u : List UInt8) (num : Nat) (imm size : Int) (hn : num < 18446744073709551616) (hi : -2147483648 ≤ imm ∧ imm < 2147483648) (hs : 0 ≤ size ∧ size ≤ 65536)
  (c : Nat) (hc : c ∈ [84, 85, 110, 76, 115, 100, 119, 80, 70]) (hp : c = 80 → 0 ≤ imm) :
  ∃ v' h', callR (EV tab) 55 [insV op t u num imm size, .int .i32 c] h = some (v', h') ∧ Bytes h h' v' (opB c t u num imm size) ∧ Kept h h' := by
 obtain ⟨x1, x2, x3, code, zig⟩ := hO
 have hk := (Kept.refl h).push (.cells 39 6 (insL op t u num imm size))
 have hh : tab.ng ≤ (h.push (.cells 39 6 (insL op t u num imm size))).next := by rw [H.next_push]; omega
 have hnn : ¬ h.next < tab.ng := by omega
 have hlit : Kept h ((h.push (.cells 39 6 (insL op t u num imm size))).push (.cells 5 1 [])) := hk.push _
 simp only [List.mem_cons, List.not_mem_nil, or_false] at hc
 simp only [insL] at hh hk
 rcases hc with rfl | rfl | rfl | rfl | rfl | rfl | rfl | rfl | rfl
 ·generalize he : callR _ _ _ _ = r
  rw [enter55 _ _ _ (x1 _) rfl] at he
  simp only [sS, sevalprocAttr, fF55, tT, sN, sM, ng_eq, tabL_ng, insV, insL, hnn, iEql, Int.cast_ofNat_Int, Int.reduceBEq, code, codeT_byte] at he
  subst he
  refine ⟨_, _, rfl, ⟨h.next + 1, 3, rfl, by omega, by simp only [H.next_push]; omega, ?_⟩, (Kept.refl h).push _ |>.push _⟩
  simp only [H.get_push, H.next_push, ↓reduceIte]
  rfl
 ·generalize he : callR _ _ _ _ = r
  rw [enter55 _ _ _ (x1 _) rfl] at he
  simp only [sS, sevalprocAttr, fF55, tT, sN, sM, ng_eq, tabL_ng, insV, insL, hnn, iEql, Int.cast_ofNat_Int, Int.reduceBEq, code, codeT_byte] at he
  subst he
  refine ⟨_, _, rfl, ⟨h.next + 1, 3, rfl, by omega, by simp only [H.next_push]; omega, ?_⟩, (Kept.refl h).push _ |>.push _⟩
  simp only [H.get_push, H.next_push, ↓reduceIte]
  rfl
 ·obtain ⟨v', h', e, r, k⟩ := num5 tab x2 num hn (h.push (.cells 39 6 [.int .i64 op, .string ⟨⟨t⟩⟩, .string ⟨⟨u⟩⟩, .int .u64 num, .int .i64 imm, .int .i64 size])) hh
  generalize he : callR _ _ _ _ = r0
  rw [enter55 _ _ _ (x1 _) rfl] at he
  simp only [sS, sevalprocAttr, fF55, tT, sN, sM, ng_eq, tabL_ng, insV, insL, hnn, iEql, Int.cast_ofNat_Int, Int.reduceBEq, e] at he
  subst he
  exact ⟨v', h', rfl, (row_bytes (l := numL num) rfl r (numL_nil _)).weak hk.le, hk.trans k⟩
 ·obtain ⟨v', h', e, r, k⟩ := num5 tab x2 num hn (h.push (.cells 39 6 [.int .i64 op, .string ⟨⟨t⟩⟩, .string ⟨⟨u⟩⟩, .int .u64 num, .int .i64 imm, .int .i64 size])) hh
  generalize he : callR _ _ _ _ = r0
  rw [enter55 _ _ _ (x1 _) rfl] at he
  simp only [sS, sevalprocAttr, fF55, tT, sN, sM, ng_eq, tabL_ng, insV, insL, hnn, iEql, Int.cast_ofNat_Int, Int.reduceBEq, e] at he
  subst he
  exact ⟨v', h', rfl, (row_bytes (l := numL num) rfl r (numL_nil _)).weak hk.le, hk.trans k⟩
 ·obtain ⟨v', h', e, r, k⟩ := num5 tab x2 (zz imm) (zz_lt imm hi) (h.push (.cells 39 6 [.int .i64 op, .string ⟨⟨t⟩⟩, .string ⟨⟨u⟩⟩, .int .u64 num, .int .i64 imm, .int .i64 size])) hh
  generalize he : callR _ _ _ _ = r0
  rw [enter55 _ _ _ (x1 _) rfl] at he
  simp only [sS, sevalprocAttr, fF55, tT, sN, sM, ng_eq, tabL_ng, insV, insL, hnn, iEql, Int.cast_ofNat_Int, Int.reduceBEq, e, zig _ _ hi] at he
  subst he
  exact ⟨v', h', rfl, (row_bytes (l := numL (zz imm)) rfl r (numL_nil _)).weak hk.le, hk.trans k⟩
 ·obtain ⟨v', h', e, r, k⟩ := fixed_run tab x3 (u64 imm) 4 (by decide) (h.push (.cells 39 6 [.int .i64 op, .string ⟨⟨t⟩⟩, .string ⟨⟨u⟩⟩, .int .u64 num, .int .i64 imm, .int .i64 size])) hh
  simp only [Int.cast_ofNat_Int] at e
  generalize he : callR _ _ _ _ = r0
  rw [enter55 _ _ _ (x1 _) rfl] at he
  simp only [sS, sevalprocAttr, fF55, tT, sN, sM, ng_eq, tabL_ng, insV, insL, hnn, iEql, Int.cast_ofNat_Int, Int.reduceBEq, e, u64_wrap] at he
  subst he
  exact ⟨v', h', rfl, (row_bytes (l := fixL (u64 imm) 4) (fixL_len _ _).symm r (fixL_ne _ 3)).weak hk.le, hk.trans k⟩
 ·obtain ⟨v', h', e, r, k⟩ := fixed_run tab x3 num 8 (by decide) (h.push (.cells 39 6 [.int .i64 op, .string ⟨⟨t⟩⟩, .string ⟨⟨u⟩⟩, .int .u64 num, .int .i64 imm, .int .i64 size])) hh
  simp only [Int.cast_ofNat_Int] at e
  generalize he : callR _ _ _ _ = r0
  rw [enter55 _ _ _ (x1 _) rfl] at he
  simp only [sS, sevalprocAttr, fF55, tT, sN, sM, ng_eq, tabL_ng, insV, insL, hnn, iEql, Int.cast_ofNat_Int, Int.reduceBEq, e] at he
  subst he
  exact ⟨v', h', rfl, (row_bytes (l := fixL num 8) (fixL_len _ _).symm r (fixL_ne _ 7)).weak hk.le, hk.trans k⟩
 ·obtain ⟨v', h', e, r, k⟩ := num5 tab x2 imm.toNat (by omega) (h.push (.cells 39 6 [.int .i64 op, .string ⟨⟨t⟩⟩, .string ⟨⟨u⟩⟩, .int .u64 num, .int .i64 imm, .int .i64 size])) hh
  generalize he : callR _ _ _ _ = r0
  rw [enter55 _ _ _ (x1 _) rfl] at he
  have hw : IntKind.u64.wrap imm = ((imm.toNat : Nat) : Int) := by rw [IntWalk.u64_in _ (by have := hp rfl; omega)]; have := hp rfl; omega
  simp only [sS, sevalprocAttr, fF55, tT, sN, sM, ng_eq, tabL_ng, insV, insL, hnn, iEql, Int.cast_ofNat_Int, Int.reduceBEq, e, hw] at he
  subst he
  exact ⟨v', h', rfl, (row_bytes (l := numL imm.toNat) rfl r (numL_nil _)).weak hk.le, hk.trans k⟩
 ·obtain ⟨v', h', e, r, k⟩ := num5 tab x2 size.toNat (by omega) (h.push (.cells 39 6 [.int .i64 op, .string ⟨⟨t⟩⟩, .string ⟨⟨u⟩⟩, .int .u64 num, .int .i64 imm, .int .i64 size])) hh
  generalize he : callR _ _ _ _ = r0
  rw [enter55 _ _ _ (x1 _) rfl] at he
  have hw : IntKind.u64.wrap size = ((size.toNat : Nat) : Int) := by rw [IntWalk.u64_in _ (by omega)]; omega
  simp only [sS, sevalprocAttr, fF55, tT, sN, sM, ng_eq, tabL_ng, insV, insL, hnn, iEql, Int.cast_ofNat_Int, Int.reduceBEq, e, hw] at he
  subst he
  exact ⟨v', h', rfl, (row_bytes (l := numL size.toNat) rfl r (numL_nil _)).weak hk.le, hk.trans k⟩
theorem append_row2 {E : Env} {t e : Nat} {i j : Info} (hi : E.info t = some i) (hd : i.desc = .slice e) (hj : E.info e = some j) (hb : (Nat.ble j.bytes 1000 && Nat.ble 1 j.bytes) = true) (he : e ≠ E.bt)
  {h0 h : H} {v : Value} {n : Nat} {l : List Value} (hng : E.ng ≤ h0.next) (hr : Row h0 h e j.size v n l) (hk : Kept h0 h) {x : Value} {zeros : Bool} {new : List Value} {m : Nat}
  (hnew : newD E h j.zero j.size zeros x = some (new, m)) (h1 : new.all isOne = true) (hm : m ≤ 1000000) (hn : n ≤ 1000000) (hl : new.length = m * j.size) :
  ∃ v' h', appendD E h t zeros v x = some (v', h') ∧ Row h0 h' e j.size v' (n + m) (l ++ new) ∧ Kept h0 h' ∧ h.next ≤ h'.next ∧ ∀ c, c < h.next → (∀ q, v = .slice (some ⟨q, 0, none⟩) n 0 → c ≠ q) → h'.get c = h.get c := by
 simp only [Bool.and_eq_true] at hb
 have hc : (!(new.all isOne && Nat.ble m 1000000 && Nat.ble j.bytes 1000 && Nat.ble 1 j.bytes && new.length == m * j.size)) = false := by
  rw [h1, hb.1, hb.2, hl]
  simp [hm]
 unfold appendD
 simp only [hi, hd, hj, hnew, hc, Bool.false_eq_true, if_false]
 rcases hr with ⟨rfl, rfl, rfl⟩ | ⟨b, rfl, r2, r3, r4, r5⟩
 ·simp only
  by_cases hm0 : m = 0
  ·subst hm0
   have hn0 : new = [] := by
    cases new with
    | nil => rfl
    | cons a l => simp at hl
   subst hn0
   exact ⟨_, _, by rw [if_pos rfl], .inl ⟨rfl, rfl, rfl⟩, hk, Nat.le_refl _, fun _ _ _ => rfl⟩
  ·refine ⟨_, _, by rw [if_neg hm0], .inr ⟨h.next, by rw [Nat.zero_add], hk.le, ?_, ?_, ?_⟩, hk.push _, by rw [H.next_push]; omega, fun c hc _ => H.get_push_lt _ _ hc⟩
   ·rw [H.next_push]; omega
   ·rw [H.get_push_self]; rfl
   ·simp [hl]
 ·have hg : (decide (b < E.ng) || !(Nat.ble n 1000000)) = false := by
   have : ¬ b < E.ng := by omega
   simp [this, hn]
  simp only [hg, Bool.false_eq_true, if_false, r4, Obj.row]
  rw [if_neg (by simp)]
  have hs := sub_all e j.size l
  rw [r5] at hs
  simp only [hs]
  rw [if_pos trivial, if_neg he]
  refine ⟨_, _, rfl, .inr ⟨h.next, rfl, hk.le, ?_, ?_, ?_⟩, (hk.kill r2).push _, by rw [H.next_push, H.next_kill]; omega, fun c hc hq => ?_⟩
  ·rw [H.next_push]; exact Nat.lt_succ_self _
  ·exact H.get_push_self (h.kill b) _
  ·rw [List.length_append, r5, hl, Nat.add_mul]
  ·rw [H.get_push_lt _ _ (by rw [H.next_kill]; exact hc), H.get_kill, if_neg (fun e => hq b rfl e.symm)]
def Outb (lo : Nat) (h1 h : H) (v : Value) (l : List UInt8) : Prop := Row h1 h 5 1 v l.length (bs l) ∨ ∃ b, v = .slice (some ⟨b, 0, none⟩) 1 3 ∧ lo ≤ b ∧ b < h1.next ∧ h.get b = some (.cells 5 1 (bs l)) ∧ l.length = 1
theorem Outb.kept {lo : Nat} {h1 h h' : H} {v : Value} {l : List UInt8} (o : Outb lo h1 h v l) (k : Kept h h') (kk : h1.next ≤ h.next) : Outb lo h1 h' v l := by
 rcases o with r | ⟨b, e, b1, b2, g, hl⟩
 ·exact .inl (r.kept k)
 ·exact .inr ⟨b, e, b1, b2, by rw [k.get _ (Nat.lt_of_lt_of_le b2 kk)]; exact g, hl⟩
theorem out_app (tab : Tab) {lo : Nat} (hlo : tab.ng ≤ lo) {h1 h : H} (hng : tab.ng ≤ h1.next) {v : Value} {l : List UInt8} (o : Outb lo h1 h v l) (hk : Kept h1 h) (hl : l.length ≤ 1000) {hx : H} {v2 : Value} {l2 : List UInt8} (hb : Bytes hx h v2 l2) (hxn : tab.ng ≤ hx.next) (h2 : l2 ≠ []) (hl2 : l2.length ≤ 1000)
  {bit : Nat} {us : ByteArray} {i : Nat} (hbit : bit < h.next) (hit : h.get bit = some (.iter us i)) :
  ∃ v' h', appendD (EV tab) h 49 false v v2 = some (v', h') ∧ Row h1 h' 5 1 v' (l ++ l2).length (bs (l ++ l2)) ∧ Kept h1 h' ∧ h.next ≤ h'.next ∧ h'.get bit = some (.iter us i) := by
 obtain ⟨b2, c2, rfl, q1, q2, q3⟩ := hb
 have hnw := new_bytes tab h l2 l2.length b2 c2 (by omega) q3 rfl
 rcases o with r | ⟨b, rfl, b1, b3, g, hl1⟩
 ·obtain ⟨v', h', e, rr, k, k2, fr⟩ := append_row2 (E := EV tab) (t := 49) (ti49 tab) rfl (ti5 tab) rfl (by rw [bt_eq]; show (5 : Nat) ≠ 82; decide) hng r hk (hnw _) (bs_one _) (by omega) (by omega) (by rw [bs_length, Nat.mul_one])
  refine ⟨v', h', e, by rw [bs_append, List.length_append]; exact rr, k, k2, ?_⟩
  rw [fr bit hbit ?_]
  ·exact hit
  ·intro q hq hbq
   subst hq
   rcases r with ⟨r1, _, _⟩ | ⟨b', r1, _, _, r4, _⟩
   ·cases r1
   ·cases r1
    rw [← hbq, hit] at r4
    cases r4
 ·have hpos : 0 < l2.length := List.length_pos_iff.2 h2
  have e := append_full (E := EV tab) (t := 49) (ti49 tab) rfl (ti5 tab) rfl (h := h) (b := b) (n := 1) (c := 3) (l := bs l) (show tab.ng ≤ b by omega) g (by rw [bs_length, hl1]; rfl) (hnw _) (bs_one _) (by omega) (by decide) (by rw [bs_length, Nat.mul_one]) (by decide) (by omega)
  refine ⟨_, _, e, .inr ⟨h.next, ?_, hk.le, by rw [H.next_push]; omega, ?_, ?_⟩, hk.push _, by rw [H.next_push]; omega, ?_⟩
  ·rw [List.length_append, hl1]
  ·rw [H.get_push_self, bs_append]
  ·rw [bs_length, Nat.mul_one]
  ·rw [H.get_push_lt _ _ hbit]; exact hit
def opsL (us : List UInt8) (t u : List UInt8) (num : Nat) (imm size : Int) : List UInt8 := us.flatMap fun c => opB c.toNat t u num imm size
theorem opB_len (c : Nat) (t u : List UInt8) (num : Nat) (imm size : Int) (hn : num < 18446744073709551616) (hi : -2147483648 ≤ imm ∧ imm < 2147483648) (hs : 0 ≤ size ∧ size ≤ 65536) : (opB c t u num imm size).length ≤ 10 ∧ opB c t u num imm size ≠ [] := by
 have h10 : ∀ n, n < 18446744073709551616 → (numL n).length ≤ 10 := fun n h => numL_le 9 n (by omega)
 unfold opB
 split
 ·exact ⟨by simp, by simp⟩
 ·split
  ·exact ⟨by simp, by simp⟩
  ·split
   ·exact ⟨h10 _ hn, numL_nil _⟩
   ·split
    ·exact ⟨h10 _ (zz_lt _ hi), numL_nil _⟩
    ·split
     ·exact ⟨by rw [fixL_len]; decide, fixL_ne _ 3⟩
     ·split
      ·exact ⟨by rw [fixL_len]; decide, fixL_ne _ 7⟩
      ·split
       ·exact ⟨h10 _ (by omega), numL_nil _⟩
       ·exact ⟨h10 _ (by omega), numL_nil _⟩
noncomputable def byLoop : Code := .loop (.seq (Rg 31 4) (.seq (.cond (Operand.tmp 22) .skip (Code.exit 0)) (.block 1 (.seq (Rg 31 5) (Rg 31 6)))))
theorem by_loop (tab : Tab) (hO : Ops tab) {lo : Nat} (hlo : tab.ng ≤ lo) (h1 : H) (hng : tab.ng ≤ h1.next) (bi : Nat) (hbi : bi < h1.next) (hbi2 : tab.ng ≤ bi) (op : Int) (t u : List UInt8) (num : Nat) (imm size : Int) (hn : num < 18446744073709551616) (hi : -2147483648 ≤ imm ∧ imm < 2147483648) (hs : 0 ≤ size ∧ size ≤ 65536)
  (us : List UInt8) (hu : ∀ c ∈ us, c.toNat ∈ [84, 85, 110, 76, 115, 100, 119, 80, 70] ∧ (c.toNat = 80 → 0 ≤ imm)) (ha : asc us = true) (hul : us.length ≤ 5) (hg1 : h1.get bi = some (.cells 39 6 (insL op t u num imm size))) :
  ∀ (k i : Nat) (tm : Tr Value) (h : H) (v : Value) (l : List UInt8), i + k = us.length → l.length ≤ 1 + 10 * i → tm.get 1 = some (.pointer (some ⟨bi, 0, none⟩)) → tm.get 5 = some v → tm.get 20 = some (.pointer (some ⟨h1.next, 0, none⟩)) →
  h.get h1.next = some (.iter ⟨⟨us⟩⟩ i) → h1.next < h.next → Outb lo h1 h v l → Kept h1 h →
  ∃ tm' h' v', exR (EV tab) byLoop ⟨false, 30, tm, h⟩ = some (.exit 0, ⟨false, 30, tm', h'⟩) ∧ tm'.get 5 = some v' ∧ Outb lo h1 h' v' (l ++ opsL (us.drop i) t u num imm size) ∧ Kept h1 h' := by
 intro k
 have hb17 : ¬ h1.next < (EV tab).ng := by rw [ng_eq]; omega
 induction k with
 | zero =>
  intro i tm h v l hik hl t1 t5 t20 hit hlt ho hk
  have e := next_done (EV tab) h h1.next i us hb17 hit (by omega)
  generalize he : exR (EV tab) byLoop ⟨false, 30, tm, h⟩ = r
  rw [byLoop, exR_loop] at he
  simp only [sS, sevalprocAttr, fF31, tT, sN, sM, oNext, t20, e] at he
  subst he
  refine ⟨_, h, v, rfl, by simp only [Tr.get_set, Nat.reduceEqDiff, ↓reduceIte, t5], ?_, hk⟩
  rw [List.drop_eq_nil_of_le (by omega)]
  simpa [opsL] using ho
 | succ k ih =>
  intro i tm h v l hik hl t1 t5 t20 hit hlt ho hk
  have hiu : i < us.length := by omega
  have e := next_more (EV tab) h h1.next i us ha hb17 hit hiu
  have hd : us.drop i = us[i] :: us.drop (i + 1) := (List.getElem_cons_drop hiu).symm
  obtain ⟨hc, hp⟩ := hu us[i] (List.getElem_mem hiu)
  have hk2 : Kept h1 (h.put h1.next (.iter ⟨⟨us⟩⟩ (i + 1))) := hk.put _ (Nat.le_refl _)
  have ho2 : Outb lo h1 (h.put h1.next (.iter ⟨⟨us⟩⟩ (i + 1))) v l := by
   rcases ho with r | ⟨b, e, b1, b2, g, hl1⟩
   ·rcases r with r | ⟨b, r1, r2, r3, r4, r5⟩
    ·exact .inl (.inl r)
    ·refine .inl (.inr ⟨b, r1, r2, r3, ?_, r5⟩)
     rw [H.get_put, if_neg]
     ·exact r4
     ·intro hbe
      rw [← hbe, hit] at r4; cases r4
   ·exact .inr ⟨b, e, b1, b2, by rw [H.get_put, if_neg (by omega)]; exact g, hl1⟩
  have hg1' : (h.put h1.next (.iter ⟨⟨us⟩⟩ (i + 1))).get bi = some (.cells 39 6 (insL op t u num imm size)) := by rw [hk2.get _ hbi]; exact hg1
  have hit2 : (h.put h1.next (.iter ⟨⟨us⟩⟩ (i + 1))).get h1.next = some (.iter ⟨⟨us⟩⟩ (i + 1)) := by rw [H.get_put, if_pos rfl]
  obtain ⟨v2, h2, e2, hb2, kk2⟩ := operand_run tab hO (h.put h1.next (.iter ⟨⟨us⟩⟩ (i + 1))) (by rw [H.next_put]; omega) op t u num imm size hn hi hs us[i].toNat hc hp
  have hlen := opB_len us[i].toNat t u num imm size hn hi hs
  obtain ⟨v3, h3, e3, r3, k3, k4, hit3⟩ := out_app tab hlo hng (ho2.kept kk2 (by rw [H.next_put]; omega)) (hk2.trans kk2) (by omega) hb2 (by rw [H.next_put]; omega) hlen.2 (by omega)
   (bit := h1.next) (us := ⟨⟨us⟩⟩) (i := i + 1) (by have := kk2.le; rw [H.next_put] at this; omega) (by rw [kk2.get _ (by rw [H.next_put]; exact hlt)]; exact hit2)
  have n1 : ¬ bi < tab.ng := by omega
  have e2' := e2
  simp only [insV, insL] at e2' hg1'
  obtain ⟨tm1, x1, a1, a5, a20⟩ : ∃ tm1, exR (EV tab) byLoop ⟨false, 30, tm, h⟩ = exR (EV tab) byLoop ⟨false, 30, tm1, h3⟩ ∧ tm1.get 1 = some (.pointer (some ⟨bi, 0, none⟩)) ∧ tm1.get 5 = some v3 ∧ tm1.get 20 = some (.pointer (some ⟨h1.next, 0, none⟩)) := by
   generalize he : exR (EV tab) byLoop ⟨false, 30, tm, h⟩ = r
   rw [byLoop, exR_loop] at he
   simp only [sS, sevalprocAttr, fF31, tT, sN, sM, ng_eq, tabL_ng, oNext, t1, t5, t20, e, n1, hg1', e2', e3] at he
   subst he
   refine ⟨_, rfl, ?_, ?_, ?_⟩ <;> simp only [Tr.get_set, Nat.reduceEqDiff, ↓reduceIte, t1, t20]
  obtain ⟨tm', h', v', y1, y2, y3, y4⟩ := ih (i + 1) tm1 h3 v3 (l ++ opB us[i].toNat t u num imm size) (by omega) (by rw [List.length_append]; omega) a1 a5 a20 hit3 (by have := kk2.le; rw [H.next_put] at this; omega) (.inl r3) k3
  refine ⟨tm', h', v', by rw [x1]; exact y1, y2, ?_, y4⟩
  rw [hd]
  rw [List.append_assoc] at y3
  exact y3
def bytesL (op : Nat) (us : List UInt8) (t u : List UInt8) (num : Nat) (imm size : Int) : List UInt8 := UInt8.ofNat op :: opsL us t u num imm size
theorem kindT_uses : kindT.all (fun r => decide (r.uses.length ≤ 5) && r.uses.all (fun c => [84, 85, 110, 76, 115, 100, 119, 80, 70].contains c.toNat)) = true := by decide
theorem kindT_lt {k : Nat} {r : KindR} (hk : kindT[k]? = some r) : k < 29 := by
 have := (List.getElem?_eq_some_iff.1 hk).1
 have h2 : kindT.length = 29 := rfl
 omega
theorem opb (k : Nat) (h : k < 29) : IntKind.u8.wrap (k : Int) = (((UInt8.ofNat k).toNat : Nat) : Int) := low6 k (by omega)
structure ByX (tab : Tab) : Prop where
 ops : Ops tab
 x0 : ∀ l, callExt (EV tab) 31 l = none
 x1 : ∀ l, callExt (EV tab) 23 l = none
 x2 : ∀ l, callExt (EV tab) 47 l = none
 x3 : ∀ l, callExt (EV tab) 79 l = none
theorem bytes_run (tab : Tab) (hB : ByX tab) (h : H) (hng : tab.ng ≤ h.next) (k : Nat) (r : KindR) (hk : kindT[k]? = some r) (t u : List UInt8) (num : Nat) (imm size : Int) (hn : num < 18446744073709551616) (hi : -2147483648 ≤ imm ∧ imm < 2147483648) (hs : 0 ≤ size ∧ size ≤ 65536)
  (hp : ∀ c ∈ r.uses, c.toNat = 80 → 0 ≤ imm) :
  ∃ v' h', callR (EV tab) 31 [insV k t u num imm size] h = some (v', h') ∧ Bytes h h' v' (bytesL k r.uses t u num imm size) ∧ Kept h h' := by
 obtain ⟨hO, x0, x1, x2, x3⟩ := hB
 have hu := List.all_eq_true.1 kindT_uses r (List.mem_of_getElem? hk)
 simp only [Bool.and_eq_true, decide_eq_true_eq, List.all_eq_true] at hu
 have ha : asc r.uses = true := List.all_eq_true.1 kindT_asc r (List.mem_of_getElem? hk)
 have hlt := kindT_lt hk
 obtain ⟨h', e, kp, hn', -⟩ := kindOf_in tab x1 x2 x3 (h.push (.cells 39 6 (insL k t u num imm size))) (by rw [H.next_push]; omega) k r hk
 rw [H.next_push] at hn' e
 have g1 : h'.get h.next = some (.cells 39 6 (insL k t u num imm size)) := by rw [kp.get _ (by rw [H.next_push]; omega)]; exact H.get_push_self _ _
 have nn : ¬ h.next < tab.ng := by omega
 have hn1 : ¬ h'.next < tab.ng := by omega
 have hn2 : ¬ h'.next = h.next := by omega
 have hn3 : ¬ h'.next + 1 = h'.next := by omega
 have hn4 : ¬ h'.next + 1 = h.next := by omega
 have hn5 : ¬ h.next = h'.next := by omega
 have ho := rightV_one (h.next + 1 + 1) r.right
 have key : ∀ tm h1, (tab.ng ≤ h1.next ∧ h.next < h1.next ∧ Kept h h1 ∧ h1.get h.next = some (.cells 39 6 (insL k t u num imm size)) ∧ h.next < h'.next + 1 ∧ h'.next + 1 < h1.next ∧ h1.get (h'.next + 1) = some (.cells 5 1 (bs [UInt8.ofNat k])) ∧
   tm.get 1 = some (.pointer (some ⟨h.next, 0, none⟩)) ∧ tm.get 5 = some (.slice (some ⟨h'.next + 1, 0, none⟩) 1 3) ∧ tm.get 20 = some (.pointer (some ⟨h1.next, 0, none⟩))) →
   ∃ x s', exR (EV tab) byLoop ⟨false, 30, tm, h1.push (.iter ⟨⟨r.uses⟩⟩ 0)⟩ = some (x, s') ∧ (x = .exit 0 ∧ ∃ tm' h2 v', s' = ⟨false, 30, tm', h2⟩ ∧ tm'.get 5 = some v' ∧ Bytes h h2 v' (bytesL k r.uses t u num imm size) ∧ Kept h h2) := fun tm h1 p => by
  obtain ⟨p1, p2, p3, p4, p5, p6, p7, p8, p9, p10⟩ := p
  obtain ⟨tm', h2, v', y1, y2, y3, y4⟩ := by_loop tab hO hng h1 p1 h.next p2 hng k t u num imm size hn hi hs r.uses (fun c hc => ⟨by have := hu.2 c hc; simpa using this, hp c hc⟩) ha hu.1 p4
   r.uses.length 0 tm (h1.push (.iter ⟨⟨r.uses⟩⟩ 0)) _ [UInt8.ofNat k] (by omega) (by simp) p8 p9 p10 (H.get_push_self _ _) (Nat.lt_succ_self _) (.inr ⟨_, rfl, by omega, p6, by rw [H.get_push_lt _ _ p6]; exact p7, rfl⟩) ((Kept.refl _).push _)
  refine ⟨_, _, y1, rfl, tm', h2, v', rfl, y2, ?_, p3.trans y4⟩
  rw [List.drop_zero] at y3
  have y3' : Outb h.next h1 h2 v' (bytesL k r.uses t u num imm size) := y3
  rcases y3' with y | ⟨b, z1, z2, z3, z4, z5⟩
  ·exact (row_bytes rfl y (by simp [bytesL])).weak (by omega)
  ·exact ⟨b, 3, by rw [z1, z5], z2, by have := y4.le; omega, z4⟩
 have key2 : ∀ tm hh, (∃ h1, hh = h1.push (.iter ⟨⟨r.uses⟩⟩ 0) ∧ (tab.ng ≤ h1.next ∧ h.next < h1.next ∧ Kept h h1 ∧ h1.get h.next = some (.cells 39 6 (insL k t u num imm size)) ∧ h.next < h'.next + 1 ∧ h'.next + 1 < h1.next ∧ h1.get (h'.next + 1) = some (.cells 5 1 (bs [UInt8.ofNat k])) ∧
   tm.get 1 = some (.pointer (some ⟨h.next, 0, none⟩)) ∧ tm.get 5 = some (.slice (some ⟨h'.next + 1, 0, none⟩) 1 3) ∧ tm.get 20 = some (.pointer (some ⟨h1.next, 0, none⟩)))) → ∃ x s', exR (EV tab) byLoop ⟨false, 30, tm, hh⟩ = some (x, s') ∧ (x = .exit 0 ∧ ∃ tm' h2 v', s' = ⟨false, 30, tm', h2⟩ ∧ tm'.get 5 = some v' ∧ Bytes h h2 v' (bytesL k r.uses t u num imm size) ∧ Kept h h2) := fun tm hh ⟨h1, q, p⟩ => by subst q; exact key tm h1 p
 generalize he : callR _ _ _ _ = x
 rw [enter31 _ _ _ (x0 _) rfl] at he
 simp only [insL] at e g1
 simp only [kindL] at e
 simp only [sS, sevalprocAttr, r31_0, r31_1, r31_2, r31_3,
  tT, sN, sM, ng_eq, tabL_ng, oRange, e, g1, nn, hn1, hn2, hn3, ho, insV, insL, opb k hlt] at he
 obtain ⟨x1, s1, ⟨rfl, tm', h2, v', rfl, y2, y3, y4⟩, he⟩ := use_run key2 (fun o => finish (EV tab) [ResultVar.tmp 2] (andThen (unblock 0 o) (exR (EV tab) (.seq (Rg 31 7) .ret)))) he ⟨_, rfl, by
  have hkk : Kept h h' := ((Kept.refl h).push _).trans kp
  refine ⟨?_, ?_, ?_, ?_, ?_, ?_, ?_, ?_, ?_, ?_⟩
  ·simp only [H.next_push, H.next_put]; omega
  ·simp only [H.next_push, H.next_put]; omega
  ·exact ((hkk.push _).put _ (by omega)).push _
  ·simp only [H.get_push, H.get_put, H.next_push, H.next_put, hn2, hn4, hn5, if_false, g1, insL]
   try rfl
  ·omega
  ·simp only [H.next_push, H.next_put]; omega
  ·simp only [H.get_push, H.next_push, H.next_put, if_true]; rfl
  all_goals simp only [Tr.get_set, Nat.reduceEqDiff, ↓reduceIte, H.next_push, H.next_put]⟩
 simp only [sS, sevalprocAttr, fF31, tT, y2] at he
 subst he
 exact ⟨v', h2, rfl, y3, y4⟩
theorem kindT_near : kindT.all (fun r => (!hasB r.uses [115, 100, 80] || (match r.right with | .near => true | .entered => true | _ => false)) && (!hasB r.uses [70] || (match r.right with | .entered => true | _ => false)) &&
  (!r.uses.any (fun c => c.toNat == 80) || (match r.right with | .entered => true | _ => false))) = true := by decide
theorem check_ok {op : Int} {t u : List UInt8} {num imm size : Int} (h : checkI op t u num imm size = 0) (hn : num < 18446744073709551616) :
  ∃ (k : Nat) (r : KindR), op = k ∧ kindT[k]? = some r ∧ kindAt op = some r ∧ wrongB t (hasB r.uses [84]) = false ∧ wrongB u (hasB r.uses [85]) = false ∧ spareB r.uses num imm size = false ∧ rightB num imm size r.right = true ∧ existsB op t u num = true ∧
   (-2147483648 ≤ imm ∧ imm < 2147483648) ∧ (0 ≤ size ∧ size ≤ 65536) ∧ (∀ c ∈ r.uses, c.toNat = 80 → 0 ≤ imm) := by
 rcases kindAt_cases op with ⟨hk, _⟩ | ⟨k, rfl, r, hk, hk2⟩
 ·unfold checkI at h; rw [hk] at h; cases h
 ·unfold checkI at h
  rw [hk2] at h
  simp only at h
  rw [lastI_eq] at h
  have w : (wrongB t (hasB r.uses [84]) || wrongB u (hasB r.uses [85])) = false := by
   cases q : (wrongB t (hasB r.uses [84]) || wrongB u (hasB r.uses [85])) with
   | false => rfl
   | true => rw [q] at h; cases h
  rw [w] at h
  simp only [Bool.false_eq_true, if_false] at h
  have s : spareB r.uses num imm size = false := by
   cases q : spareB r.uses num imm size with
   | false => rfl
   | true => rw [q] at h; cases h
  rw [s] at h
  simp only [Bool.false_eq_true, if_false] at h
  have rr : rightB num imm size r.right = true := by
   cases q : rightB num imm size r.right with
   | true => rfl
   | false => rw [q] at h; cases h
  rw [rr] at h
  simp only [Bool.not_true, Bool.false_eq_true, if_false] at h
  have ex : existsB k t u num = true := by
   cases q : existsB k t u num with
   | true => rfl
   | false => rw [q] at h; cases h
  rw [Bool.or_eq_false_iff] at w
  have hq := List.all_eq_true.1 kindT_near r (List.mem_of_getElem? hk)
  simp only [Bool.and_eq_true, Bool.or_eq_true, Bool.not_eq_true'] at hq
  obtain ⟨⟨q1, q2⟩, q3⟩ := hq
  have s' := s
  unfold spareB at s'
  simp only [Bool.or_eq_false_iff, Bool.and_eq_false_iff, Bool.not_eq_false', bne_eq_false_iff_eq] at s'
  obtain ⟨⟨s1, s2⟩, s3⟩ := s'
  have hen : r.right = .entered → (0 ≤ imm ∧ imm ≤ 9999 ∧ 0 ≤ size ∧ size ≤ 65536) := fun he => by
   rw [he] at rr
   simp only [rightB, enterB, Bool.and_eq_true, decide_eq_true_eq] at rr
   omega
  have hne : r.right = .near → (-2147483648 ≤ imm ∧ imm < 2147483648) := fun he => by
   rw [he] at rr
   simp only [rightB, nearB, Bool.and_eq_true, decide_eq_true_eq] at rr
   exact rr
  refine ⟨k, r, rfl, hk, hk2, w.1, w.2, s, rr, ex, ?_, ?_, ?_⟩
  ·rcases s2 with s2 | s2
   ·omega
   ·rw [s2] at q1
    rcases q1 with q1 | q1
    ·cases q1
    ·cases hr : r.right with
     | near => exact hne hr
     | entered => have := hen hr; omega
     | free => rw [hr] at q1; cases q1
     | aligned => rw [hr] at q1; cases q1
     | below _ _ => rw [hr] at q1; cases q1
  ·rcases s3 with s3 | s3
   ·omega
   ·rw [s3] at q2
    rcases q2 with q2 | q2
    ·cases q2
    ·cases hr : r.right with
     | entered => have := hen hr; omega
     | near => rw [hr] at q2; cases q2
     | free => rw [hr] at q2; cases q2
     | aligned => rw [hr] at q2; cases q2
     | below _ _ => rw [hr] at q2; cases q2
  ·intro c hc h80
   rcases q3 with q3 | q3
   ·rw [List.any_eq_false] at q3
    exact absurd (by simpa using h80) (q3 c hc)
   ·cases hr : r.right with
    | entered => exact (hen hr).1
    | near => rw [hr] at q3; cases q3
    | free => rw [hr] at q3; cases q3
    | aligned => rw [hr] at q3; cases q3
    | below _ _ => rw [hr] at q3; cases q3
abbrev CheckP (tab : Tab) (f : Nat) : Prop := ∀ op t u num imm size h, 0 ≤ num → callR (EV tab) f [insV op t u num imm size] h = some (.int .i64 (checkI op t u num imm size), h)
def usesAt (op : Int) : List UInt8 := match kindAt op with | some r => r.uses | none => []
def sizeI (op : Int) (t u : List UInt8) (num imm size : Int) : Int × Int :=
 if checkI op t u num imm size = 0 then (((bytesL op.toNat (usesAt op) t u num.toNat imm size).length : Nat), 0) else (0, checkI op t u num imm size)
def sizeV : Spec
 | [.agg ⟨[.int .i64 op, .string ⟨⟨t⟩⟩, .string ⟨⟨u⟩⟩, .int .u64 num, .int .i64 imm, .int .i64 size]⟩] =>
  if 0 ≤ num ∧ num < 18446744073709551616 then some (.tuple ⟨[.int .i64 (sizeI op t u num imm size).1, .int .i64 (sizeI op t u num imm size).2]⟩) else none
 | _ => none
theorem f_Size {T : List (Nat × Spec)} (hT : Fine T) (hx : ∀ l, callExt (EV (tabL T)) 11 l = none) (hc : CheckP (tabL T) 15) (hB : ByX (tabL T)) : Fine ((11, sizeV) :: T) :=
 hT.step (F := Tryz.f11) (by kernel_rfl) (by kernel_rfl) hx fun args v hv => by
  unfold sizeV at hv
  split at hv
  ·rename_i op t u num imm size
   split at hv
   ·rename_i hn
    cases hv
    refine ⟨rfl, rfl, ?_⟩
    have e1 := fun h => hc op t u num imm size h hn.1
    simp only [insV, insL] at e1
    unfold sizeI
    generalize he : callR _ _ _ _ = x
    rw [enter11 _ _ _ (hx _) rfl] at he
    by_cases q : checkI op t u num imm size = 0
    ·rw [if_pos q]
     obtain ⟨k, r, rfl, hk, hk2, -, -, -, -, -, hi, hs, hp⟩ := check_ok q hn.2
     have z : (checkI k t u num imm size != 0) = false := by rw [q]; rfl
     obtain ⟨n, rfl⟩ : ∃ n : Nat, num = n := ⟨num.toNat, by omega⟩
     obtain ⟨v', h', e, ⟨b, c, rfl, -, -, -⟩, -⟩ := bytes_run (tabL T) hB (h0.push (.cells 39 6 (insL k t u n imm size))) (by show 17 ≤ 18; decide) k r hk t u n imm size (by omega) hi hs hp
     simp only [insV, insL] at e
     simp only [sS, sevalprocAttr, fF11, tT, sN, sM, ng_eq, tabL_ng, h0_next, e1, z, iNeq, e] at he
     subst he
     unfold usesAt
     rw [hk2]
     exact ⟨_, rfl⟩
    ·rw [if_neg q]
     have z : (checkI op t u num imm size != 0) = true := by simpa using q
     simp only [sS, sevalprocAttr, fF11, tT, sN, sM, ng_eq, tabL_ng, h0_next, e1, z, iNeq] at he
     subst he
     exact ⟨_, rfl⟩
   ·cases hv
  ·cases hv
def nameI (op : Int) : List UInt8 × Int := match kindAt op with | some r => (r.name, 0) | none => ([], 11)
def nameV : Spec
 | [.int .i64 op] => some (.tuple ⟨[.string ⟨⟨(nameI op).1⟩⟩, .int .i64 (nameI op).2]⟩)
 | _ => none
theorem f_Name {T : List (Nat × Spec)} (hT : Fine T) (hx : ∀ l, callExt (EV (tabL T)) 6 l = none) (x1 : ∀ l, callExt (EV (tabL T)) 23 l = none)
  (x2 : ∀ l, callExt (EV (tabL T)) 47 l = none) (x3 : ∀ l, callExt (EV (tabL T)) 79 l = none) : Fine ((6, nameV) :: T) :=
 hT.step (F := Tryz.f6) (by kernel_rfl) (by kernel_rfl) hx fun args v hv => by
  unfold nameV at hv
  split at hv
  ·rename_i op
   cases hv
   refine ⟨rfl, rfl, ?_⟩
   unfold nameI
   generalize he : callR _ _ _ _ = x
   rw [enter6 _ _ _ (hx _) rfl] at he
   rcases kindAt_cases op with ⟨hk, ho⟩ | ⟨k, rfl, r, hk, hk2⟩
   ·rw [hk]
    obtain ⟨h', e, kp⟩ := kindOf_out (tabL T) x1 x2 x3 h0 (tng T (Nat.le_refl 17)) op ho
    have hn : ¬ h'.next < 17 := by have := kp.le; rw [h0_next] at this; omega
    simp only [kindZ] at e
    simp only [sS, sevalprocAttr, fF6, tT, sN, sM, ng_eq, tabL_ng, h0_next, e, hn, Bool.not_false] at he
    subst he
    exact ⟨_, rfl⟩
   ·rw [hk2]
    obtain ⟨h', e, kp, hn', -⟩ := kindOf_in (tabL T) x1 x2 x3 h0 (tng T (Nat.le_refl 17)) k r hk
    have hn : ¬ h'.next < 17 := by rw [h0_next] at hn'; omega
    have ho := rightV_one 18 r.right
    simp only [kindL] at e
    simp only [sS, sevalprocAttr, fF6, tT, sN, sM, ng_eq, tabL_ng, h0_next, e, hn, ho, Bool.not_true] at he
    subst he
    exact ⟨_, rfl⟩
  ·cases hv
theorem f_Name26 {T : List (Nat × Spec)} (hT : Fine T) (hx : ∀ l, callExt (EV (tabL T)) 7 l = none) (h1 : RowOf (tabL T)) : Fine ((7, nameV) :: T) :=
 hT.step (F := Tryz.f7) (by kernel_rfl) (by kernel_rfl) hx fun args v hv => by
  unfold nameV at hv
  split at hv
  ·rename_i op
   cases hv
   refine ⟨rfl, rfl, ?_⟩
   unfold nameI
   generalize he : callR _ _ _ _ = x
   rw [enter7 _ _ _ (hx _) rfl] at he
   rcases kindAt_cases op with ⟨hk, ho⟩ | ⟨k, rfl, r, hk, hk2⟩
   ·rw [hk]
    by_cases q : op < 0
    ·have d1 : decide (op < 0) = true := decide_eq_true q
     simp only [sS, sevalprocAttr, fF7, tT, sN, sM, ng_eq, tabL_ng, h0_next, iLss, d1] at he
     subst he
     exact ⟨_, rfl⟩
    ·have d1 : decide (op < 0) = false := decide_eq_false q
     have d2 : decide (29 ≤ op) = true := decide_eq_true (by omega)
     simp only [sS, sevalprocAttr, fF7, tT, sN, sM, ng_eq, tabL_ng, h0_next, iLss, iGeq, ge_iff_le, d1, d2] at he
     subst he
     exact ⟨_, rfl⟩
   ·rw [hk2]
    have hlt := kindT_lt hk
    have d1 : decide ((k : Int) < 0) = false := decide_eq_false (by omega)
    have d2 : decide ((29 : Int) ≤ k) = false := decide_eq_false (by omega)
    have e1 := fun h => h1 (k : Int) r h hk2
    simp only [rowL] at e1
    simp only [sS, sevalprocAttr, fF7, tT, sN, sM, ng_eq, tabL_ng, h0_next, iLss, iGeq, ge_iff_le, d1, d2, e1] at he
    subst he
    exact ⟨_, rfl⟩
  ·cases hv
def effectI (op : Int) (t u : List UInt8) (num imm size : Int) : Int × Int × Int :=
 if checkI op t u num imm size = 0 then (if op = 25 then (num, 0, 0) else match kindAt op with | some r => (r.pops, r.puts, 0) | none => (0, 0, 0)) else (0, 0, checkI op t u num imm size)
def effectV : Spec
 | [.agg ⟨[.int .i64 op, .string ⟨⟨t⟩⟩, .string ⟨⟨u⟩⟩, .int .u64 num, .int .i64 imm, .int .i64 size]⟩] =>
  if 0 ≤ num ∧ num < 18446744073709551616 then some (.tuple ⟨[.int .i64 (effectI op t u num imm size).1, .int .i64 (effectI op t u num imm size).2.1, .int .i64 (effectI op t u num imm size).2.2]⟩) else none
 | _ => none
theorem ret_num {op : Int} {r : KindR} {num imm size : Int} (ho : op = 25) (hk : kindAt op = some r) (h : rightB num imm size r.right = true) : num ≤ 1 := by
 subst ho
 have hr : r.right = .below 7 1 := by cases hk; rfl
 rw [hr] at h
 simpa [rightB] using h
theorem ret_eff {op : Int} {r : KindR} (ho : op = 25) (hk : kindAt op = some r) : r.pops = 0 ∧ r.puts = 0 := by
 subst ho; cases hk; exact ⟨rfl, rfl⟩
theorem eq2 (tab : Tab) (a b c d : Int) : eqD (EV tab) 70 (.agg ⟨[.int .i64 a, .int .i64 b]⟩) (.agg ⟨[.int .i64 c, .int .i64 d]⟩) = some (a == c && b == d) := by
 have hq : (EV tab).eqf 70 = true := rfl
 simp only [eqD, ti70, hq, sameKinds, beq_self_eq_true, Bool.and_self, if_true, eqCells]
 cases a == c <;> cases b == d <;> simp
theorem f_Effect {T : List (Nat × Spec)} (hT : Fine T) (hx : ∀ l, callExt (EV (tabL T)) 13 l = none) (hc : CheckP (tabL T) 15) (x1 : ∀ l, callExt (EV (tabL T)) 23 l = none)
  (x2 : ∀ l, callExt (EV (tabL T)) 47 l = none) (x3 : ∀ l, callExt (EV (tabL T)) 79 l = none) : Fine ((13, effectV) :: T) :=
 hT.step (F := Tryz.f13) (by kernel_rfl) (by kernel_rfl) hx fun args v hv => by
  unfold effectV at hv
  split at hv
  ·rename_i op t u num imm size
   split at hv
   ·rename_i hn
    cases hv
    refine ⟨rfl, rfl, ?_⟩
    have e1 := fun h => hc op t u num imm size h hn.1
    simp only [insV, insL] at e1
    unfold effectI
    generalize he : callR _ _ _ _ = x
    rw [enter13 _ _ _ (hx _) rfl] at he
    by_cases q : checkI op t u num imm size = 0
    ·rw [if_pos q]
     obtain ⟨k, r, rfl, hk, hk2, -, -, -, hrr, -, -, -, -⟩ := check_ok q hn.2
     have z : (checkI k t u num imm size != 0) = false := by rw [q]; rfl
     obtain ⟨h', e, kp, hn', -⟩ := kindOf_in (tabL T) x1 x2 x3 (h0.push (.cells 39 6 (insL k t u num imm size))) (by show 17 ≤ 18; decide) k r hk
     have hnx : (h0.push (.cells 39 6 (insL k t u num imm size))).next = 18 := rfl
     rw [hnx] at hn' e
     have g1 := kp.get 17 (by rw [hnx]; decide)
     rw [show (h0.push (.cells 39 6 (insL k t u num imm size))).get 17 = some (.cells 39 6 (insL k t u num imm size)) from H.get_push_self _ _] at g1
     have nn : ¬ h'.next < 17 := by omega
     have nn1 : ¬ h'.next + 1 < 17 := by omega
     have nn2 : ¬ h'.next + 1 + 1 < 17 := by omega
     have m1 : ¬ h'.next = 17 := by omega
     have m2 : ¬ h'.next + 1 = 17 := by omega
     have m3 : ¬ h'.next + 1 = h'.next := by omega
     have m4 : ¬ h'.next = h'.next + 1 := by omega
     have m5 : ¬ h'.next + 1 + 1 = h'.next + 1 := by omega
     have m6 : ¬ h'.next + 1 = h'.next + 1 + 1 := by omega
     have m7 : ¬ h'.next + 1 + 1 = 17 := by omega
     have ho := rightV_one 19 r.right
     simp only [insL] at e g1
     simp only [kindL, Nat.reduceAdd] at e
     by_cases q5 : (k : Int) = 25
     ·rw [if_pos q5]
      have j : ((k : Int) == 25) = true := by rw [q5]; rfl
      have hnum := ret_num q5 hk2 hrr
      have hw : IntKind.i64.wrap num = num := IntWalk.i64_in _ ⟨by omega, by omega⟩
      obtain ⟨hp, hq⟩ := ret_eff q5 hk2
      rw [hp, hq] at e
      cases q6 : (num == 0) with
      | true =>
       have q7 : num = 0 := by simpa using q6
       simp only [sS, sevalprocAttr, fF13, tT, sN, sM, ng_eq, tabL_ng, h0_next, e1, z, iNeq, iEql, e, g1, hn', nn, nn1, nn2, m1, m2, m3, m4, m5, m6, m7, ho, j, hw, eqBin, eqOut, eq2, q6, beq_self_eq_true, Bool.and_self, Int.reduceLE, Int.reduceLT, Int.reduceToNat, Int.cast_ofNat_Int, and_self] at he
       subst he
       rw [q7]
       exact ⟨_, rfl⟩
      | false =>
       simp only [sS, sevalprocAttr, fF13, tT, sN, sM, ng_eq, tabL_ng, h0_next, e1, z, iNeq, iEql, e, g1, hn', nn, nn1, nn2, m1, m2, m3, m4, m5, m6, m7, ho, j, hw, eqBin, eqOut, eq2, q6, Bool.false_and, veq_int, Int.reduceLE, Int.reduceLT, Int.reduceToNat, Int.cast_ofNat_Int, and_self] at he
       subst he
       exact ⟨_, rfl⟩
     ·rw [if_neg q5, hk2]
      have j : ((k : Int) == 25) = false := beq_eq_false_iff_ne.2 q5
      cases q6 : (r.pops == 0 && r.puts == 0) with
      | true =>
       have q7 : r.pops = 0 ∧ r.puts = 0 := by simpa using q6
       simp only [sS, sevalprocAttr, fF13, tT, sN, sM, ng_eq, tabL_ng, h0_next, e1, z, iNeq, iEql, e, g1, hn', nn, nn1, nn2, m1, m2, m3, m4, m5, m6, m7, ho, j, eqBin, eqOut, eq2, q6, Int.reduceLE, Int.reduceLT, Int.reduceToNat, Int.cast_ofNat_Int, and_self] at he
       subst he
       simp only [q7.1, q7.2]
       exact ⟨_, rfl⟩
      | false =>
       simp only [sS, sevalprocAttr, fF13, tT, sN, sM, ng_eq, tabL_ng, h0_next, e1, z, iNeq, iEql, e, g1, hn', nn, nn1, nn2, m1, m2, m3, m4, m5, m6, m7, ho, j, eqBin, eqOut, eq2, q6, veq_int, Int.reduceLE, Int.reduceLT, Int.reduceToNat, Int.cast_ofNat_Int, and_self] at he
       subst he
       exact ⟨_, rfl⟩
    ·rw [if_neg q]
     have z : (checkI op t u num imm size != 0) = true := by simpa using q
     simp only [sS, sevalprocAttr, fF13, tT, sN, sM, ng_eq, tabL_ng, h0_next, e1, z, iNeq] at he
     subst he
     exact ⟨_, rfl⟩
   ·cases hv
  ·cases hv
theorem f_Effect26 {T : List (Nat × Spec)} (hT : Fine T) (hx : ∀ l, callExt (EV (tabL T)) 14 l = none) (hc : CheckP (tabL T) 16) (h1 : RowOf (tabL T)) : Fine ((14, effectV) :: T) :=
 hT.step (F := Tryz.f14) (by kernel_rfl) (by kernel_rfl) hx fun args v hv => by
  unfold effectV at hv
  split at hv
  ·rename_i op t u num imm size
   split at hv
   ·rename_i hn
    cases hv
    refine ⟨rfl, rfl, ?_⟩
    have e1 := fun h => hc op t u num imm size h hn.1
    simp only [insV, insL] at e1
    unfold effectI
    generalize he : callR _ _ _ _ = x
    rw [enter14 _ _ _ (hx _) rfl] at he
    by_cases q : checkI op t u num imm size = 0
    ·rw [if_pos q]
     obtain ⟨k, r, rfl, hk, hk2, -, -, -, hrr, -, -, -, -⟩ := check_ok q hn.2
     have z : (checkI k t u num imm size != 0) = false := by rw [q]; rfl
     have e2 := fun h => h1 (k : Int) r h hk2
     simp only [rowL] at e2
     by_cases q5 : (k : Int) = 25
     ·rw [if_pos q5]
      have j : ((k : Int) == 25) = true := by rw [q5]; rfl
      have hnum := ret_num q5 hk2 hrr
      have hw : IntKind.i64.wrap num = num := IntWalk.i64_in _ ⟨by omega, by omega⟩
      simp only [sS, sevalprocAttr, fF14, tT, sN, sM, ng_eq, tabL_ng, h0_next, e1, e2, z, iNeq, iEql, j, hw] at he
      subst he
      exact ⟨_, rfl⟩
     ·rw [if_neg q5, hk2]
      have j : ((k : Int) == 25) = false := beq_eq_false_iff_ne.2 q5
      simp only [sS, sevalprocAttr, fF14, tT, sN, sM, ng_eq, tabL_ng, h0_next, e1, e2, z, iNeq, iEql, j, veq_int] at he
      subst he
      exact ⟨_, rfl⟩
    ·rw [if_neg q]
     have z : (checkI op t u num imm size != 0) = true := by simpa using q
     simp only [sS, sevalprocAttr, fF14, tT, sN, sM, ng_eq, tabL_ng, h0_next, e1, z, iNeq] at he
     subst he
     exact ⟨_, rfl⟩
   ·cases hv
  ·cases hv
theorem fixL_snoc : ∀ (i n : Nat), fixL n (i + 1) = fixL n i ++ [UInt8.ofNat (n / 256 ^ i % 256)]
 | 0, n => by simp [fixL]
 | i + 1, n => by
  rw [fixL, fixL_snoc i (n / 256), fixL]
  rw [List.cons_append, Nat.div_div_eq_div_mul, Nat.pow_succ, Nat.mul_comm 256]
theorem shr8i (n i : Nat) (hi : i < 8) : iShr .u64 (n : Int) ((8 * i : Nat) : Int) = some (.int .u64 ((n / 256 ^ i : Nat) : Int)) := by
 unfold iShr
 rw [if_neg (by omega)]
 have h0 : (((8 * i : Nat) : Int)).toNat = 8 * i := by omega
 have h1 : (2 : Int) ^ (min (((8 * i : Nat) : Int)).toNat IntKind.u64.bits) = ((256 ^ i : Nat) : Int) := by
  rw [h0, show min (8 * i) IntKind.u64.bits = 8 * i from Nat.min_eq_left (by show 8 * i ≤ 64; omega)]
  have e1 : (2 : Nat) ^ (8 * i) = 256 ^ i := by rw [Nat.pow_mul]
  rw [← e1, Int.natCast_pow]; rfl
 rw [h1]
 have h2 : (n : Int).fdiv ((256 ^ i : Nat) : Int) = ((n / 256 ^ i : Nat) : Int) := by rw [Int.fdiv_eq_ediv_of_nonneg _ (Int.natCast_nonneg _)]; rfl
 rw [h2]
noncomputable def liLoop : Code := .loop (.seq (.seq (Rg 59 3) (.cond (Operand.tmp 9) .skip (Code.exit 0))) (.seq (.block 1 (Rg 59 5)) (Rg 59 4)))
theorem li_loop (tab : Tab) (h0 : H) (hng : tab.ng ≤ h0.next) (m n : Nat) (hm : m ≤ 8) : ∀ (k i : Nat) (tm : Tr Value) (h : H) (v : Value), i + k = m → tm.get 0 = some (.int .u64 n) → tm.get 5 = some v → tm.get 1 = some (.int .i64 m) → tm.get 6 = some (.int .i64 i) →
  Row h0 h 5 1 v (fixL n i).length (bs (fixL n i)) → Kept h0 h →
  ∃ tm' h' v', exR (EV tab) liLoop ⟨false, 21, tm, h⟩ = some (.exit 0, ⟨false, 21, tm', h'⟩) ∧ tm'.get 5 = some v' ∧ Row h0 h' 5 1 v' (fixL n m).length (bs (fixL n m)) ∧ Kept h0 h' := by
 intro k
 induction k with
 | zero =>
  intro i tm h v hi t0 t5 t1 t6 hr hk
  have hlt : ¬ i < m := by omega
  generalize he : exR (EV tab) liLoop ⟨false, 21, tm, h⟩ = r
  rw [liLoop, exR_loop] at he
  simp only [sS, sevalprocAttr, fF59, tT, t1, t6, iLss, Int.ofNat_lt, hlt, decide_false] at he
  subst he
  have him : i = m := by omega
  subst him
  exact ⟨_, h, v, rfl, by simp only [Tr.get_set, Nat.reduceEqDiff, ↓reduceIte, t5], hr, hk⟩
 | succ k ih =>
  intro i tm h v hi t0 t5 t1 t6 hr hk
  have hlt : i < m := by omega
  obtain ⟨v1, h1, e, r, kk⟩ := app1 tab hng hr hk (by rw [fixL_len]; omega) (UInt8.ofNat (n / 256 ^ i % 256))
  rw [← fixL_snoc] at r
  have m1 : iMul .i64 8 (i : Int) = some (.int .i64 ((8 * i : Nat) : Int)) := by
   unfold iMul; rw [IntWalk.i64_in _ (by omega)]; rfl
  obtain ⟨tm1, e1, a0, a5, a1, a6⟩ : ∃ tm1, exR (EV tab) liLoop ⟨false, 21, tm, h⟩ = exR (EV tab) liLoop ⟨false, 21, tm1, h1⟩ ∧ tm1.get 0 = some (.int .u64 n) ∧ tm1.get 5 = some v1 ∧ tm1.get 1 = some (.int .i64 m) ∧ tm1.get 6 = some (.int .i64 ((i + 1 : Nat) : Int)) := by
   generalize he : exR (EV tab) liLoop ⟨false, 21, tm, h⟩ = r
   rw [liLoop, exR_loop] at he
   simp only [sS, sevalprocAttr, fF59, tT, t0, t5, t1, t6, iLss, Int.ofNat_lt, hlt, decide_true, m1, shr8i n i (by omega), low256, e, add1 i (by omega)] at he
   subst he
   refine ⟨_, rfl, ?_, ?_, ?_, ?_⟩ <;> simp only [Tr.get_set, Nat.reduceEqDiff, ↓reduceIte, t0, t1]
  obtain ⟨tm', h', v', x1, x2, x3, x4⟩ := ih (i + 1) tm1 h1 v1 (by omega) a0 a5 a1 a6 r kk
  exact ⟨tm', h', v', by rw [e1]; exact x1, x2, x3, x4⟩
theorem little_run (tab : Tab) (hx : ∀ l, callExt (EV tab) 59 l = none) (n m : Nat) (hm : m ≤ 8) (h : H) (hng : tab.ng ≤ h.next) :
  ∃ v' h', callR (EV tab) 59 [.int .u64 n, .int .i64 m] h = some (v', h') ∧ Row h h' 5 1 v' m (bs (fixL n m)) ∧ Kept h h' := by
 have key : ∀ tm h1, (h1 = h ∧ tm.get 0 = some (.int .u64 n) ∧ tm.get 5 = some (.slice none 0 0) ∧ tm.get 1 = some (.int .i64 m) ∧ tm.get 6 = some (.int .i64 0)) → ∃ x s', exR (EV tab) liLoop ⟨false, 21, tm, h1⟩ = some (x, s') ∧
   (x = .exit 0 ∧ ∃ tm' h' v', s' = ⟨false, 21, tm', h'⟩ ∧ tm'.get 5 = some v' ∧ Row h h' 5 1 v' m (bs (fixL n m)) ∧ Kept h h') := fun tm h1 p => by
  obtain ⟨rfl, p0, p5, p6, p7⟩ := p
  obtain ⟨tm', h', v', x1, x2, x3, x4⟩ := li_loop tab h1 hng m n hm m 0 tm h1 (.slice none 0 0) (by omega) p0 p5 p6 p7 (Row.nil _ _ _ _) (Kept.refl h1)
  rw [fixL_len] at x3
  exact ⟨_, _, x1, rfl, tm', h', v', rfl, x2, x3, x4⟩
 generalize he : callR _ _ _ _ = r
 rw [enter59 _ _ _ (hx _) rfl] at he
 simp only [sS, sevalprocAttr, r59_0, r59_1, r59_2, tT] at he
 obtain ⟨x1, s1, ⟨rfl, tm', h', v', rfl, x2, x3, x4⟩, he⟩ := use_run key (fun o => finish (EV tab) [ResultVar.tmp 4] (andThen (unblock 0 o) (exR (EV tab) (.seq (Rg 59 6) .ret)))) he (by
  refine ⟨rfl, ?_, ?_, ?_, ?_⟩ <;> simp only [Tr.get_set, Nat.reduceEqDiff, ↓reduceIte])
 simp only [sS, sevalprocAttr, fF59, tT, x2] at he
 subst he
 exact ⟨v', h', rfl, x3, x4⟩
theorem out_app2 (tab : Tab) {lo : Nat} (hlo : tab.ng ≤ lo) {h1 h : H} (hng : tab.ng ≤ h1.next) {v : Value} {l : List UInt8} (o : Outb lo h1 h v l) (hk : Kept h1 h) (hl : l.length ≤ 1000) {hx : H} {v2 : Value} {l2 : List UInt8} (hb : Bytes hx h v2 l2) (hxn : tab.ng ≤ hx.next) (h2 : l2 ≠ []) (hl2 : l2.length ≤ 1000) :
  ∃ v' h', appendD (EV tab) h 49 false v v2 = some (v', h') ∧ Outb lo h1 h' v' (l ++ l2) ∧ Kept h1 h' := by
 obtain ⟨b2, c2, rfl, q1, q2, q3⟩ := hb
 have hnw := new_bytes tab h l2 l2.length b2 c2 (by omega) q3 rfl
 rcases o with r | ⟨b, rfl, b1, b3, g, hl1⟩
 ·obtain ⟨v', h', e, rr, k, k2, fr⟩ := append_row2 (E := EV tab) (t := 49) (ti49 tab) rfl (ti5 tab) rfl (by rw [bt_eq]; show (5 : Nat) ≠ 82; decide) hng r hk (hnw _) (bs_one _) (by omega) (by omega) (by rw [bs_length, Nat.mul_one])
  exact ⟨v', h', e, .inl (by rw [bs_append, List.length_append]; exact rr), k⟩
 ·have hpos : 0 < l2.length := List.length_pos_iff.2 h2
  have e := append_full (E := EV tab) (t := 49) (ti49 tab) rfl (ti5 tab) rfl (h := h) (b := b) (n := 1) (c := 3) (l := bs l) (show tab.ng ≤ b by omega) g (by rw [bs_length, hl1]; rfl) (hnw _) (bs_one _) (by omega) (by decide) (by rw [bs_length, Nat.mul_one]) (by decide) (by omega)
  refine ⟨_, _, e, .inl (.inr ⟨h.next, ?_, hk.le, by rw [H.next_push]; omega, ?_, ?_⟩), hk.push _⟩
  ·rw [List.length_append, hl1]
  ·rw [H.get_push_self, bs_append]
  ·rw [bs_length, Nat.mul_one]
def opR (c : Nat) (t u : List UInt8) (num : Nat) (imm size : Int) : List UInt8 :=
 if c = 116 then [UInt8.ofNat (codeT t).1.toNat] else if c = 117 then [UInt8.ofNat (codeT u).1.toNat] else if c = 110 then numL num else if c = 115 then numL (zz imm) else
 if c = 100 then fixL (u64 imm) 4 else if c = 119 then fixL num 8 else numL imm.toNat ++ numL num ++ numL size.toNat
structure OpsR (tab : Tab) : Prop where
 x2 : ∀ l, callExt (EV tab) 57 l = none
 x3 : ∀ l, callExt (EV tab) 59 l = none
 code : ∀ s h, callR (EV tab) 56 [.string ⟨⟨s⟩⟩] h = some (.tuple ⟨[.int .i64 (codeT s).1, .int .i64 (codeT s).2]⟩, h)
 zig : ∀ s h, -2147483648 ≤ s ∧ s < 2147483648 → callR (EV tab) 58 [.int .i64 s] h = some (.int .u64 (zz s : Nat), h)
noncomputable def brLoop : Code := .loop (.seq (.seq (Rg 32 4) (.cond (Operand.tmp 21) .skip (Code.exit 0))) (.seq (.block 1 (.seq (Rg 32 6) (.block 2 (.seq (Rg 32 7) (.cond (Operand.tmp 28) (.seq (Rg 32 8) (Rg 32 9)) (.seq (Rg 32 10) (.cond (Operand.tmp 41) (.seq (Rg 32 11) (Rg 32 12)) (.seq (Rg 32 13) (.cond (Operand.tmp 54) (Rg 32 14) (.seq (Rg 32 15) (.cond (Operand.tmp 61) (Rg 32 16) (.seq (Rg 32 17) (.cond (Operand.tmp 69) (Rg 32 18) (.seq (Rg 32 19) (.cond (Operand.tmp 77) (Rg 32 20) (.seq (Rg 32 21) (.cond (Operand.tmp 84) (.seq (Rg 32 22) (.seq (Rg 32 23) (Rg 32 24))) .skip))))))))))))))))) (Rg 32 5)))
structure BrS (N : Nat) (h1 h : H) (tm : Tr Value) (bi bk : Nat) (op : Int) (t u : List UInt8) (num : Nat) (imm size : Int) (r : KindR) : Prop where
 t1 : tm.get 1 = some (.pointer (some ⟨bi, 0, none⟩))
 t3 : tm.get 3 = some (.pointer (some ⟨bk, 0, none⟩))
 g1 : h1.get bi = some (.cells 36 6 (insL op t u num imm size))
 g3 : h1.get bk = some (.cells 77 4 (rowL r))
 b1 : N ≤ bi
 b3 : N ≤ bk
 l1 : bi < h1.next
 l3 : bk < h1.next
 kp : Kept h1 h
theorem br_round (tab : Tab) (hO : OpsR tab) {lo : Nat} (hlo : tab.ng ≤ lo) (h1 h : H) (hng : tab.ng ≤ h1.next) (tm : Tr Value) (bi bk : Nat) (op : Int) (t u : List UInt8) (num : Nat) (imm size : Int) (r : KindR) (s : BrS tab.ng h1 h tm bi bk op t u num imm size r)
  (hn : num < 18446744073709551616) (hi : -2147483648 ≤ imm ∧ imm < 2147483648) (hs : 0 ≤ size ∧ size ≤ 65536) (i : Nat) (v : Value) (l : List UInt8) (hl : l.length ≤ 200) (hlen : (usesR r.uses).length ≤ 5) (hiu : i < (usesR r.uses).length) (c : Nat) (hcc : (usesR r.uses)[i].toNat = c) (hc : c ∈ [116, 117, 110, 115, 100, 119, 101]) (hp : c = 101 → 0 ≤ imm)
  (t4 : tm.get 4 = some v) (t5 : tm.get 5 = some (.int .i64 i)) (ho : Outb lo h1 h v l) :
  ∃ tm' h' v', exR (EV tab) brLoop ⟨false, 104, tm, h⟩ = exR (EV tab) brLoop ⟨false, 104, tm', h'⟩ ∧ BrS tab.ng h1 h' tm' bi bk op t u num imm size r ∧ tm'.get 4 = some v' ∧ tm'.get 5 = some (.int .i64 ((i + 1 : Nat) : Int)) ∧ Outb lo h1 h' v' (l ++ opR c t u num imm size) := by
 obtain ⟨x2, x3, code, zig⟩ := hO
 obtain ⟨t1, t3, g1, g3, b1, b3, l1, l3, kp⟩ := s
 have gg : ∀ {h'}, Kept h1 h' → h'.get bi = some (.cells 36 6 [.int .i64 op, .string ⟨⟨t⟩⟩, .string ⟨⟨u⟩⟩, .int .u64 num, .int .i64 imm, .int .i64 size]) := fun k => by rw [k.get _ l1]; exact g1
 have gk : ∀ {h'}, Kept h1 h' → h'.get bk = some (.cells 77 4 [.string ⟨⟨r.name⟩⟩, .string ⟨⟨usesR r.uses⟩⟩, .int .i64 r.pops, .int .i64 r.puts]) := fun k => by rw [k.get _ l3]; exact g3
 have ga := gg kp
 have gb := gk kp
 have n1 : ¬ bi < tab.ng := by omega
 have n3 : ¬ bk < tab.ng := by omega
 have hsz : (ByteArray.mk ⟨usesR r.uses⟩).size = (usesR r.uses).length := rfl
 have hget : (usesR r.uses)[i]? = some (usesR r.uses)[i] := by simp
 have hkn : tab.ng ≤ h.next := Nat.le_trans hng kp.le
 have had := add1 i (by omega)
 have h10 : ∀ n, n < 18446744073709551616 → (numL n).length ≤ 10 := fun n h => numL_le 9 n (by omega)
 generalize hcu : (usesR r.uses)[i] = cu at hget hcc
 simp only [List.mem_cons, List.not_mem_nil, or_false] at hc
 have fin : ∀ {tm' : Tr Value} {h' : H}, tm'.get 1 = tm.get 1 → tm'.get 3 = tm.get 3 → Kept h1 h' → BrS tab.ng h1 h' tm' bi bk op t u num imm size r := fun a b k => ⟨a.trans t1, b.trans t3, g1, g3, b1, b3, l1, l3, k⟩
 rcases hc with rfl | rfl | rfl | rfl | rfl | rfl | rfl
 ·
  have hb : Bytes h (h.push (.cells 5 1 (bs [UInt8.ofNat (codeT t).1.toNat]))) (.slice (some ⟨h.next, 0, none⟩) 1 3) [UInt8.ofNat (codeT t).1.toNat] := ⟨h.next, 3, rfl, Nat.le_refl _, Nat.lt_succ_self _, H.get_push_self _ _⟩
  obtain ⟨v3, h3, e3, o3, k3⟩ := out_app2 tab hlo hng (ho.kept ((Kept.refl h).push (.cells 5 1 (bs [UInt8.ofNat (codeT t).1.toNat]))) kp.le) (kp.push _) (by omega) hb hkn (by simp) (by simp)
  have e3' : appendD (EV tab) (h.push (Obj.cells 5 1 [Value.int IntKind.u8 ↑(UInt8.ofNat (codeT t).1.toNat).toNat])) 49 false v (.slice (some ⟨h.next, 0, none⟩) 1 3) = some (v3, h3) := e3
  generalize he : exR (EV tab) brLoop ⟨false, 104, tm, h⟩ = x
  rw [brLoop, exR_loop] at he
  simp only [sS, sevalprocAttr, fF32, tT, sN, sM, ng_eq, tabL_ng, t1, t3, t4, t5, ga, gb, n1, n3, iLss, hsz, Int.ofNat_lt, hiu, decide_true, oIndex, indexD, Int.natCast_nonneg, Int.toNat_natCast, hget, hcc, iEql, Int.cast_ofNat_Int, Int.reduceBEq, had, code, codeT_byte, e3'] at he
  subst he
  refine ⟨_, h3, v3, rfl, fin ?_ ?_ k3, ?_, ?_, o3⟩ <;> simp only [Tr.get_set, Nat.reduceEqDiff, ↓reduceIte, t1, t3]
 ·
  have hb : Bytes h (h.push (.cells 5 1 (bs [UInt8.ofNat (codeT u).1.toNat]))) (.slice (some ⟨h.next, 0, none⟩) 1 3) [UInt8.ofNat (codeT u).1.toNat] := ⟨h.next, 3, rfl, Nat.le_refl _, Nat.lt_succ_self _, H.get_push_self _ _⟩
  obtain ⟨v3, h3, e3, o3, k3⟩ := out_app2 tab hlo hng (ho.kept ((Kept.refl h).push (.cells 5 1 (bs [UInt8.ofNat (codeT u).1.toNat]))) kp.le) (kp.push _) (by omega) hb hkn (by simp) (by simp)
  have e3' : appendD (EV tab) (h.push (Obj.cells 5 1 [Value.int IntKind.u8 ↑(UInt8.ofNat (codeT u).1.toNat).toNat])) 49 false v (.slice (some ⟨h.next, 0, none⟩) 1 3) = some (v3, h3) := e3
  generalize he : exR (EV tab) brLoop ⟨false, 104, tm, h⟩ = x
  rw [brLoop, exR_loop] at he
  simp only [sS, sevalprocAttr, fF32, tT, sN, sM, ng_eq, tabL_ng, t1, t3, t4, t5, ga, gb, n1, n3, iLss, hsz, Int.ofNat_lt, hiu, decide_true, oIndex, indexD, Int.natCast_nonneg, Int.toNat_natCast, hget, hcc, iEql, Int.cast_ofNat_Int, Int.reduceBEq, had, code, codeT_byte, e3'] at he
  subst he
  refine ⟨_, h3, v3, rfl, fin ?_ ?_ k3, ?_, ?_, o3⟩ <;> simp only [Tr.get_set, Nat.reduceEqDiff, ↓reduceIte, t1, t3]
 ·
  obtain ⟨v2, h2, e2, hb, k2⟩ := num6 tab x2 9 num h (by omega) (by decide) hn hkn
  have hle := h10 num hn
  obtain ⟨v3, h3, e3, o3, k3⟩ := out_app2 tab hlo hng (ho.kept k2 kp.le) (kp.trans k2) (by omega) hb hkn (numL_nil _) (by omega)
  generalize he : exR (EV tab) brLoop ⟨false, 104, tm, h⟩ = x
  rw [brLoop, exR_loop] at he
  simp only [sS, sevalprocAttr, fF32, tT, sN, sM, ng_eq, tabL_ng, t1, t3, t4, t5, ga, gb, n1, n3, iLss, hsz, Int.ofNat_lt, hiu, decide_true, oIndex, indexD, Int.natCast_nonneg, Int.toNat_natCast, hget, hcc, iEql, Int.cast_ofNat_Int, Int.reduceBEq, had, e2, e3] at he
  subst he
  refine ⟨_, h3, v3, rfl, fin ?_ ?_ k3, ?_, ?_, o3⟩ <;> simp only [Tr.get_set, Nat.reduceEqDiff, ↓reduceIte, t1, t3]
 ·
  obtain ⟨v2, h2, e2, hb, k2⟩ := num6 tab x2 9 (zz imm) h (by have := zz_lt imm hi; omega) (by decide) (zz_lt imm hi) hkn
  have hle := h10 (zz imm) (zz_lt imm hi)
  obtain ⟨v3, h3, e3, o3, k3⟩ := out_app2 tab hlo hng (ho.kept k2 kp.le) (kp.trans k2) (by omega) hb hkn (numL_nil _) (by omega)
  generalize he : exR (EV tab) brLoop ⟨false, 104, tm, h⟩ = x
  rw [brLoop, exR_loop] at he
  simp only [sS, sevalprocAttr, fF32, tT, sN, sM, ng_eq, tabL_ng, t1, t3, t4, t5, ga, gb, n1, n3, iLss, hsz, Int.ofNat_lt, hiu, decide_true, oIndex, indexD, Int.natCast_nonneg, Int.toNat_natCast, hget, hcc, iEql, Int.cast_ofNat_Int, Int.reduceBEq, had, e2, e3, zig _ _ hi] at he
  subst he
  refine ⟨_, h3, v3, rfl, fin ?_ ?_ k3, ?_, ?_, o3⟩ <;> simp only [Tr.get_set, Nat.reduceEqDiff, ↓reduceIte, t1, t3]
 ·
  obtain ⟨v2, h2, e2, rw2, k2⟩ := little_run tab x3 (u64 imm) 4 (by decide) h hkn
  simp only [Int.cast_ofNat_Int] at e2
  have hb := row_bytes (l := fixL (u64 imm) 4) (fixL_len _ _).symm rw2 (fixL_ne _ 3)
  obtain ⟨v3, h3, e3, o3, k3⟩ := out_app2 tab hlo hng (ho.kept k2 kp.le) (kp.trans k2) (by omega) hb hkn (fixL_ne _ 3) (by rw [fixL_len]; decide)
  generalize he : exR (EV tab) brLoop ⟨false, 104, tm, h⟩ = x
  rw [brLoop, exR_loop] at he
  simp only [sS, sevalprocAttr, fF32, tT, sN, sM, ng_eq, tabL_ng, t1, t3, t4, t5, ga, gb, n1, n3, iLss, hsz, Int.ofNat_lt, hiu, decide_true, oIndex, indexD, Int.natCast_nonneg, Int.toNat_natCast, hget, hcc, iEql, Int.cast_ofNat_Int, Int.reduceBEq, had, e2, e3, u64_wrap] at he
  subst he
  refine ⟨_, h3, v3, rfl, fin ?_ ?_ k3, ?_, ?_, o3⟩ <;> simp only [Tr.get_set, Nat.reduceEqDiff, ↓reduceIte, t1, t3]
 ·
  obtain ⟨v2, h2, e2, rw2, k2⟩ := little_run tab x3 num 8 (by decide) h hkn
  simp only [Int.cast_ofNat_Int] at e2
  have hb := row_bytes (l := fixL num 8) (fixL_len _ _).symm rw2 (fixL_ne _ 7)
  obtain ⟨v3, h3, e3, o3, k3⟩ := out_app2 tab hlo hng (ho.kept k2 kp.le) (kp.trans k2) (by omega) hb hkn (fixL_ne _ 7) (by rw [fixL_len]; decide)
  generalize he : exR (EV tab) brLoop ⟨false, 104, tm, h⟩ = x
  rw [brLoop, exR_loop] at he
  simp only [sS, sevalprocAttr, fF32, tT, sN, sM, ng_eq, tabL_ng, t1, t3, t4, t5, ga, gb, n1, n3, iLss, hsz, Int.ofNat_lt, hiu, decide_true, oIndex, indexD, Int.natCast_nonneg, Int.toNat_natCast, hget, hcc, iEql, Int.cast_ofNat_Int, Int.reduceBEq, had, e2, e3] at he
  subst he
  refine ⟨_, h3, v3, rfl, fin ?_ ?_ k3, ?_, ?_, o3⟩ <;> simp only [Tr.get_set, Nat.reduceEqDiff, ↓reduceIte, t1, t3]
 ·
  have hi0 := hp rfl
  have hw1 : IntKind.u64.wrap imm = ((imm.toNat : Nat) : Int) := by rw [IntWalk.u64_in _ (by omega)]; omega
  have hw2 : IntKind.u64.wrap size = ((size.toNat : Nat) : Int) := by rw [IntWalk.u64_in _ (by omega)]; omega
  obtain ⟨w1, q1, f1, hb1, z1⟩ := num6 tab x2 9 imm.toNat h (by omega) (by decide) (by omega) hkn
  obtain ⟨v3, h3, e3, o3, k3⟩ := out_app2 tab hlo hng (ho.kept z1 kp.le) (kp.trans z1) (by omega) hb1 hkn (numL_nil _) (by have := h10 imm.toNat (by omega); omega)
  have hn3 : tab.ng ≤ h3.next := Nat.le_trans hng k3.le
  obtain ⟨w2, q2, f2, hb2, z2⟩ := num6 tab x2 9 num h3 (by omega) (by decide) hn hn3
  obtain ⟨v4, h4, e4, o4, k4⟩ := out_app2 tab hlo hng (o3.kept z2 k3.le) (k3.trans z2) (by have := h10 imm.toNat (by omega); rw [List.length_append]; omega) hb2 hn3 (numL_nil _) (by have := h10 num hn; omega)
  have hn4 : tab.ng ≤ h4.next := Nat.le_trans hng k4.le
  obtain ⟨w3, q3, f3, hb3, z3⟩ := num6 tab x2 9 size.toNat h4 (by omega) (by decide) (by omega) hn4
  obtain ⟨v5, h5, e5, o5, k5⟩ := out_app2 tab hlo hng (o4.kept z3 k4.le) (k4.trans z3) (by have := h10 imm.toNat (by omega); have := h10 num hn; rw [List.length_append, List.length_append]; omega) hb3 hn4 (numL_nil _) (by have := h10 size.toNat (by omega); omega)
  have gc := gg k3
  have gd := gg k4
  generalize he : exR (EV tab) brLoop ⟨false, 104, tm, h⟩ = x
  rw [brLoop, exR_loop] at he
  simp only [sS, sevalprocAttr, fF32, tT, sN, sM, ng_eq, tabL_ng, t1, t3, t4, t5, ga, gb, n1, n3, iLss, hsz, Int.ofNat_lt, hiu, decide_true, oIndex, indexD, Int.natCast_nonneg, Int.toNat_natCast, hget, hcc, iEql, Int.cast_ofNat_Int, Int.reduceBEq, had, hw1, hw2, f1, e3, gc, f2, e4, gd, f3, e5] at he
  subst he
  refine ⟨_, h5, v5, rfl, fin ?_ ?_ k5, ?_, ?_, ?_⟩
  ·simp only [Tr.get_set, Nat.reduceEqDiff, ↓reduceIte]
  ·simp only [Tr.get_set, Nat.reduceEqDiff, ↓reduceIte]
  ·simp only [Tr.get_set, Nat.reduceEqDiff, ↓reduceIte]
  ·simp only [Tr.get_set, Nat.reduceEqDiff, ↓reduceIte]
  ·rw [List.append_assoc, List.append_assoc] at o5
   rw [show opR 101 t u num imm size = numL imm.toNat ++ numL num ++ numL size.toNat from rfl, List.append_assoc]
   exact o5
def opsR (us : List UInt8) (t u : List UInt8) (num : Nat) (imm size : Int) : List UInt8 := us.flatMap fun c => opR c.toNat t u num imm size
theorem opR_len (c : Nat) (t u : List UInt8) (num : Nat) (imm size : Int) (hn : num < 18446744073709551616) (hi : -2147483648 ≤ imm ∧ imm < 2147483648) (hs : 0 ≤ size ∧ size ≤ 65536) : (opR c t u num imm size).length ≤ 30 := by
 have h10 : ∀ n, n < 18446744073709551616 → (numL n).length ≤ 10 := fun n h => numL_le 9 n (by omega)
 unfold opR
 split
 ·simp
 ·split
  ·simp
  ·split
   ·have := h10 _ hn; omega
   ·split
    ·have := h10 _ (zz_lt _ hi); omega
    ·split
     ·rw [fixL_len]; decide
     ·split
      ·rw [fixL_len]; decide
      ·have := h10 num hn
       have := h10 imm.toNat (by omega)
       have := h10 size.toNat (by omega)
       rw [List.length_append, List.length_append]; omega
theorem br_loop (tab : Tab) (hO : OpsR tab) {lo : Nat} (hlo : tab.ng ≤ lo) (h1 : H) (hng : tab.ng ≤ h1.next) (bi bk : Nat) (op : Int) (t u : List UInt8) (num : Nat) (imm size : Int) (r : KindR)
  (hn : num < 18446744073709551616) (hi : -2147483648 ≤ imm ∧ imm < 2147483648) (hs : 0 ≤ size ∧ size ≤ 65536) (hlen : (usesR r.uses).length ≤ 5) (hu : ∀ c ∈ usesR r.uses, c.toNat ∈ [116, 117, 110, 115, 100, 119, 101] ∧ (c.toNat = 101 → 0 ≤ imm)) :
  ∀ (k i : Nat) (tm : Tr Value) (h : H) (v : Value) (l : List UInt8), i + k = (usesR r.uses).length → l.length ≤ 1 + 30 * i → BrS tab.ng h1 h tm bi bk op t u num imm size r → tm.get 4 = some v → tm.get 5 = some (.int .i64 i) → Outb lo h1 h v l →
  ∃ tm' h' v', exR (EV tab) brLoop ⟨false, 104, tm, h⟩ = some (.exit 0, ⟨false, 104, tm', h'⟩) ∧ tm'.get 4 = some v' ∧ Outb lo h1 h' v' (l ++ opsR ((usesR r.uses).drop i) t u num imm size) ∧ Kept h1 h' := by
 intro k
 induction k with
 | zero =>
  intro i tm h v l hik hl s t4 t5 ho
  have hiu : ¬ i < (usesR r.uses).length := by omega
  have gb : h.get bk = some (.cells 77 4 [.string ⟨⟨r.name⟩⟩, .string ⟨⟨usesR r.uses⟩⟩, .int .i64 r.pops, .int .i64 r.puts]) := by rw [s.kp.get _ s.l3]; exact s.g3
  have n3 : ¬ bk < tab.ng := by have := s.b3; omega
  have hsz : (ByteArray.mk ⟨usesR r.uses⟩).size = (usesR r.uses).length := rfl
  have t3 := s.t3
  generalize he : exR (EV tab) brLoop ⟨false, 104, tm, h⟩ = x
  rw [brLoop, exR_loop] at he
  simp only [sS, sevalprocAttr, fF32, tT, sN, sM, ng_eq, tabL_ng, t3, t5, gb, n3, iLss, hsz, Int.ofNat_lt, hiu, decide_false] at he
  subst he
  refine ⟨_, h, v, rfl, by simp only [Tr.get_set, Nat.reduceEqDiff, ↓reduceIte, t4], ?_, s.kp⟩
  rw [List.drop_eq_nil_of_le (by omega)]
  simpa [opsR] using ho
 | succ k ih =>
  intro i tm h v l hik hl s t4 t5 ho
  have hiu : i < (usesR r.uses).length := by omega
  have hd : (usesR r.uses).drop i = (usesR r.uses)[i] :: (usesR r.uses).drop (i + 1) := (List.getElem_cons_drop hiu).symm
  obtain ⟨hc, hp⟩ := hu _ (List.getElem_mem hiu)
  obtain ⟨tm1, h2, v1, e1, s1, a4, a5, o1⟩ := br_round tab hO hlo h1 h hng tm bi bk op t u num imm size r s hn hi hs i v l (by omega) hlen hiu _ rfl hc hp t4 t5 ho
  have hol := opR_len (usesR r.uses)[i].toNat t u num imm size hn hi hs
  obtain ⟨tm', h', v', y1, y2, y3, y4⟩ := ih (i + 1) tm1 h2 v1 _ (by omega) (by rw [List.length_append]; omega) s1 a4 a5 o1
  refine ⟨tm', h', v', by rw [e1]; exact y1, y2, ?_, y4⟩
  rw [hd]
  rw [List.append_assoc] at y3
  exact y3
theorem kindT_usesR : kindT.all (fun r => decide ((usesR r.uses).length ≤ 5) && (usesR r.uses).all (fun c => [116, 117, 110, 115, 100, 119, 101].contains c.toNat) && (!(usesR r.uses).any (fun c => c.toNat == 101) || r.uses.any (fun c => c.toNat == 80))) = true := by decide
theorem ops_eq (r : KindR) (k : Nat) (hk : kindT[k]? = some r) (t u : List UInt8) (num : Nat) (imm size : Int) : opsR (usesR r.uses) t u num imm size = opsL r.uses t u num imm size := by
 have hm := List.mem_of_getElem? hk
 have h : kindT.all (fun r => [[110], [119], [], [84, 110], [84, 85, 110], [84, 115], [115], [84], [100], [84, 119, 100], [80, 76, 70]].contains r.uses) = true := by decide
 have h2 := List.all_eq_true.1 h r hm
 generalize r.uses = us at h2 ⊢
 simp only [List.contains_cons, List.contains_nil, Bool.or_eq_true, beq_iff_eq, Bool.or_false] at h2
 rcases h2 with rfl | rfl | rfl | rfl | rfl | rfl | rfl | rfl | rfl | rfl | rfl
 all_goals first | rfl | skip
 ·show (numL imm.toNat ++ numL num ++ numL size.toNat) ++ [] = numL imm.toNat ++ (numL num ++ (numL size.toNat ++ []))
  simp
structure BrX (tab : Tab) : Prop where
 ops : OpsR tab
 x0 : ∀ l, callExt (EV tab) 32 l = none
 row : RowOf tab
theorem bytes26_run (tab : Tab) (hB : BrX tab) (h : H) (hng : tab.ng ≤ h.next) (k : Nat) (r : KindR) (hk : kindT[k]? = some r) (hk2 : kindAt k = some r) (t u : List UInt8) (num : Nat) (imm size : Int) (hn : num < 18446744073709551616) (hi : -2147483648 ≤ imm ∧ imm < 2147483648) (hs : 0 ≤ size ∧ size ≤ 65536)
  (hp : ∀ c ∈ r.uses, c.toNat = 80 → 0 ≤ imm) :
  ∃ v' h', callR (EV tab) 32 [insV k t u num imm size] h = some (v', h') ∧ Bytes h h' v' (bytesL k r.uses t u num imm size) ∧ Kept h h' := by
 obtain ⟨hO, x0, hrow⟩ := hB
 have hu := List.all_eq_true.1 kindT_usesR r (List.mem_of_getElem? hk)
 simp only [Bool.and_eq_true, decide_eq_true_eq, List.all_eq_true, Bool.or_eq_true, Bool.not_eq_true', List.any_eq_true] at hu
 obtain ⟨⟨u1, u2⟩, u3⟩ := hu
 have hlt := kindT_lt hk
 have e1 := fun h => hrow (k : Int) r h hk2
 have key : ∀ tm h1, (tab.ng ≤ h1.next ∧ BrS tab.ng h1 h1 tm h.next (h.next + 1) k t u num imm size r ∧ Kept h h1 ∧ h1.get (h.next + 2) = some (.cells 5 1 (bs [UInt8.ofNat k])) ∧ h.next + 2 < h1.next ∧
   tm.get 4 = some (.slice (some ⟨h.next + 2, 0, none⟩) 1 3) ∧ tm.get 5 = some (.int .i64 0)) →
   ∃ x s', exR (EV tab) brLoop ⟨false, 104, tm, h1⟩ = some (x, s') ∧ (x = .exit 0 ∧ ∃ tm' h2 v', s' = ⟨false, 104, tm', h2⟩ ∧ tm'.get 4 = some v' ∧ Bytes h h2 v' (bytesL k r.uses t u num imm size) ∧ Kept h h2) := fun tm h1 p => by
  obtain ⟨p1, p2, p3, p4, p5, p6, p7⟩ := p
  obtain ⟨tm', h2, v', y1, y2, y3, y4⟩ := br_loop tab hO hng h1 p1 h.next (h.next + 1) k t u num imm size r hn hi hs u1 (fun c hc => ⟨by have := u2 c hc; simpa using this, fun h101 => by
    rcases u3 with u3 | ⟨d, hd, h80⟩
    ·rw [List.any_eq_false] at u3; exact absurd (by simpa using h101) (u3 c hc)
    ·exact hp d hd (by simpa using h80)⟩)
   (usesR r.uses).length 0 tm h1 _ [UInt8.ofNat k] (by omega) (by simp) p2 p6 p7 (.inr ⟨_, rfl, by omega, p5, p4, rfl⟩)
  refine ⟨_, _, y1, rfl, tm', h2, v', rfl, y2, ?_, p3.trans y4⟩
  rw [List.drop_zero, ops_eq r k hk] at y3
  have y3' : Outb h.next h1 h2 v' (bytesL k r.uses t u num imm size) := y3
  rcases y3' with y | ⟨b, z1, z2, z3, z4, z5⟩
  ·exact (row_bytes rfl y (by simp [bytesL])).weak (by omega)
  ·exact ⟨b, 3, by rw [z1, z5], z2, by have := y4.le; omega, z4⟩
 have nn : ¬ h.next < tab.ng := by omega
 have nn1 : ¬ h.next + 1 < tab.ng := by omega
 have m1 : ¬ h.next + 1 = h.next := by omega
 have m2 : ¬ h.next = h.next + 1 := by omega
 simp only [rowL] at e1
 generalize he : callR _ _ _ _ = x
 rw [enter32 _ _ _ (x0 _) rfl] at he
 simp only [sS, sevalprocAttr, r32_0, r32_1, r32_2, r32_3,
  tT, sN, sM, ng_eq, tabL_ng, e1, nn, nn1, m1, m2, insV, insL, opb k hlt] at he
 obtain ⟨x1, s1, ⟨rfl, tm', h2, v', rfl, y2, y3, y4⟩, he⟩ := use_run key (fun o => finish (EV tab) [ResultVar.tmp 2] (andThen (unblock 0 o) (exR (EV tab) (.seq (Rg 32 25) .ret)))) he (by
  refine ⟨?_, ⟨?_, ?_, ?_, ?_, by omega, by omega, ?_, ?_, Kept.refl _⟩, ?_, ?_, ?_, ?_, ?_⟩
  ·simp only [H.next_push, H.next_put]; omega
  ·simp only [Tr.get_set, Nat.reduceEqDiff, ↓reduceIte]
  ·simp only [Tr.get_set, Nat.reduceEqDiff, ↓reduceIte]
  ·simp only [H.get_push, H.get_put, H.next_push, H.next_put, m1, m2, if_false, if_true, insL]
   try (rw [if_neg (by omega)])
  ·simp only [H.get_push, H.get_put, H.next_push, H.next_put, m1, m2, if_false, if_true, rowL]
   try (rw [if_neg (by omega)])
  ·simp only [H.next_push, H.next_put]; omega
  ·simp only [H.next_push, H.next_put]; omega
  ·exact ((((Kept.refl h).push _).push _).put _ (by omega)).push _
  ·simp only [H.get_push, H.next_push, H.next_put, if_true]; rfl
  ·simp only [H.next_push, H.next_put]; omega
  all_goals simp only [Tr.get_set, Nat.reduceEqDiff, ↓reduceIte, H.next_push, H.next_put])
 simp only [sS, sevalprocAttr, fF32, tT, y2] at he
 subst he
 exact ⟨v', h2, rfl, y3, y4⟩
theorem f_Size26 {T : List (Nat × Spec)} (hT : Fine T) (hx : ∀ l, callExt (EV (tabL T)) 12 l = none) (hc : CheckP (tabL T) 16) (hB : BrX (tabL T)) : Fine ((12, sizeV) :: T) :=
 hT.step (F := Tryz.f12) (by kernel_rfl) (by kernel_rfl) hx fun args v hv => by
  unfold sizeV at hv
  split at hv
  ·rename_i op t u num imm size
   split at hv
   ·rename_i hn
    cases hv
    refine ⟨rfl, rfl, ?_⟩
    have e1 := fun h => hc op t u num imm size h hn.1
    simp only [insV, insL] at e1
    unfold sizeI
    generalize he : callR _ _ _ _ = x
    rw [enter12 _ _ _ (hx _) rfl] at he
    by_cases q : checkI op t u num imm size = 0
    ·rw [if_pos q]
     obtain ⟨k, r, rfl, hk, hk2, -, -, -, -, -, hi, hs, hp⟩ := check_ok q hn.2
     have z : (checkI k t u num imm size != 0) = false := by rw [q]; rfl
     obtain ⟨n, rfl⟩ : ∃ n : Nat, num = n := ⟨num.toNat, by omega⟩
     obtain ⟨v', h', e, ⟨b, c, rfl, -, -, -⟩, -⟩ := bytes26_run (tabL T) hB (h0.push (.cells 36 6 (insL k t u n imm size))) (by show 17 ≤ 18; decide) k r hk hk2 t u n imm size (by omega) hi hs hp
     simp only [insV, insL] at e
     simp only [sS, sevalprocAttr, fF12, tT, sN, sM, ng_eq, tabL_ng, h0_next, e1, z, iNeq, e] at he
     subst he
     unfold usesAt
     rw [hk2]
     exact ⟨_, rfl⟩
    ·rw [if_neg q]
     have z : (checkI op t u num imm size != 0) = true := by simpa using q
     simp only [sS, sevalprocAttr, fF12, tT, sN, sM, ng_eq, tabL_ng, h0_next, e1, z, iNeq] at he
     subst he
     exact ⟨_, rfl⟩
   ·cases hv
  ·cases hv
end Go.D
