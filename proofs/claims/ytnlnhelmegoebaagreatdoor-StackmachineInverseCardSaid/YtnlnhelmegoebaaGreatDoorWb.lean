/- The functions of the law, one after the other: what a run of D answers. -/
import Derived.Test.YtnlnhelmegoebaaGreatDoorWa
import Derived.Test.YtnlnhelmegoebaaGreatDoorFull
import Derived.Test.YtnlnhelmegoebaaGreatDoorW0
import Derived.Laws.RangeString
import Derived.Laws.RangeAny
import Derived.Laws.StructEq
namespace Go.D
open Go.Proofs
set_option maxRecDepth 100000
set_option linter.unusedVariables false
set_option linter.unusedSimpArgs false
theorem lastI_eq (w1 w2 spare : Bool) (op : Int) (t u : List UInt8) (num imm size : Int) (r : Right) :
    lastI (w1 || w2) spare op t u num imm size r = if (w1 || w2) = true then 12 else if spare = true then 1 else if (!rightB num imm size r) = true then 3 else if (!existsB op t u num) = true then 11 else 0 := by
  unfold lastI
  cases w1 <;> cases w2 <;> cases spare <;> cases rightB num imm size r <;> cases existsB op t u num <;> rfl
/-! ### Number -/
def numL (n : Nat) : List UInt8 := if n < 128 then [UInt8.ofNat n] else UInt8.ofNat (n % 128 + 128) :: numL (n / 128)
termination_by n
decreasing_by omega

theorem or128 (n : Nat) : IntKind.u8.wrap ↑(BitVec.ofInt IntKind.u8.bits (IntKind.u8.wrap (n : Int)) ||| BitVec.ofInt IntKind.u8.bits 128).toNat = ((UInt8.ofNat (n % 128 + 128)).toNat : Int) := by
  have key : ∀ m : Fin 256, (BitVec.ofInt 8 (m.val : Int) ||| BitVec.ofInt 8 128).toNat = m.val % 128 + 128 := by decide
  have hw : IntKind.u8.wrap (n : Int) = ((n % 256 : Nat) : Int) := by rw [IntKind.wrap_u8]; omega
  rw [hw]
  have hm := key ⟨n % 256, Nat.mod_lt _ (by decide)⟩
  show IntKind.u8.wrap ((BitVec.ofInt 8 ((n % 256 : Nat) : Int) ||| BitVec.ofInt 8 128).toNat : Int) = _
  rw [hm, IntKind.wrap_u8]
  simp only [UInt8.toNat_ofNat']
  omega

theorem u64_nat (n : Nat) (h : n < 18446744073709551616) : IntKind.u64.wrap (n : Int) = n := IntWalk.u64_in _ ⟨by omega, by omega⟩

theorem shr7 (n : Nat) : iShr .u64 (n : Int) 7 = some (.int .u64 ((n / 128 : Nat) : Int)) := by
  unfold iShr
  rw [if_neg (by decide)]
  have h1 : (2 : Int) ^ (min (7 : Int).toNat IntKind.u64.bits) = 128 := rfl
  have h2 : (n : Int).fdiv 128 = ((n / 128 : Nat) : Int) := by rw [Int.fdiv_eq_ediv_of_nonneg _ (by decide)]; rfl
  rw [h1, h2]

theorem rem128 (n : Nat) : iRem .u64 (n : Int) 128 = some (.int .u64 ((n % 128 : Nat) : Int)) := by
  unfold iRem
  rw [if_neg (by decide)]
  rfl
theorem quo128 (n : Nat) (h : n < 18446744073709551616) : iQuo .u64 (n : Int) 128 = some (.int .u64 ((n / 128 : Nat) : Int)) := by
  unfold iQuo
  rw [if_neg (by decide)]
  have h2 : (n : Int).tdiv 128 = ((n / 128 : Nat) : Int) := rfl
  rw [h2, u64_nat _ (by omega)]
theorem low128 (n : Nat) : iAdd .u8 (IntKind.u8.wrap ((n % 128 : Nat) : Int)) 128 = some (.int .u8 ((UInt8.ofNat (n % 128 + 128)).toNat : Int)) := by
  unfold iAdd
  rw [IntKind.wrap_u8, IntKind.wrap_u8, UInt8.toNat_ofNat']
  congr 2
  omega

noncomputable def loop5 : Code := (.loop (.seq (.seq rg53_2 (.cond (Operand.tmp 5) .skip (.exit 0))) (.block 1 (.seq rg53_3 rg53_4))))

theorem num5_exit (tab : Tab) (n : Nat) (tm : Tr Value) (h : H) (v : Value) (hlt : n < 128) (t0 : tm.get 0 = some (.int .u64 n)) (t3 : tm.get 3 = some v) :
    ∃ tm', exR (EV tab) loop5 ⟨false, 19, tm, h⟩ = some (.exit 0, ⟨false, 19, tm', h⟩) ∧ tm'.get 0 = some (.int .u64 n) ∧ tm'.get 3 = some v := by
  have hge : ¬ (128 : Int) ≤ n := by omega
  generalize he : exR (EV tab) loop5 ⟨false, 19, tm, h⟩ = r
  rw [loop5, exR_loop] at he
  simp only [sS, ofArgs, Int.reduceLT, Int.reduceLE, Int.reduceToNat, Int.reduceEq, readD, Nat.reduceLT, Nat.reduceEqDiff, Nat.reduceAdd, ↓reduceIte, binD, binInt, intBin, unD, convD, oLen, denseD, oFunc, oAppend, Nat.reduceMul, Nat.reduceLeDiff, fF53, tTGa, tTGb, t0, t3, iGeq, ge_iff_le, hge, decide_false] at he
  subst he
  exact ⟨_, rfl, by simp only [Tr.get_set, Nat.reduceEqDiff, ↓reduceIte, t0], by simp only [Tr.get_set, Nat.reduceEqDiff, ↓reduceIte, t3]⟩

theorem new_bytes (tab : Tab) (h : H) (l : List UInt8) (n b c : Nat) (hb : tab.ng ≤ b) (hg : h.get b = some (.cells 5 1 (bs l))) (hn : l.length = n) (z : List Value) : newD (EV tab) h z 1 false (.slice (some ⟨b, 0, none⟩) n c) = some (bs l, n) := by
  subst hn
  unfold newD
  simp only [Bool.false_eq_true, if_false, lenOfD, srcD, subD, ng_eq, tabL_ng, Nat.not_lt.2 hb, Nat.mul_one, hg, sub_bs]

theorem num5_round (tab : Tab) (h0 : H) (hng : tab.ng ≤ h0.next) (n : Nat) (tm : Tr Value) (h : H) (v : Value) (l : List UInt8) (hlt : ¬ n < 128) (hu : n < 18446744073709551616) (t0 : tm.get 0 = some (.int .u64 n)) (t3 : tm.get 3 = some v)
    (hr : Row h0 h 5 1 v l.length (bs l)) (hk : Kept h0 h) (hl : l.length ≤ 1000) :
    ∃ tm' h' v', exR (EV tab) loop5 ⟨false, 19, tm, h⟩ = exR (EV tab) loop5 ⟨false, 19, tm', h'⟩ ∧ tm'.get 0 = some (.int .u64 ((n / 128 : Nat) : Int)) ∧ tm'.get 3 = some v' ∧
      Row h0 h' 5 1 v' (l ++ [UInt8.ofNat (n % 128 + 128)]).length (bs (l ++ [UInt8.ofNat (n % 128 + 128)])) ∧ Kept h0 h' := by
  have hge : (128 : Int) ≤ n := by omega
  obtain ⟨v', h', e, r, k⟩ := append_row (E := EV tab) (t := 23) (ti23 tab) rfl (ti5 tab) rfl (by rw [bt_eq]; show (5 : Nat) ≠ 86; decide) hng (hr.kept (Kept.push (Kept.refl h) (.cells 5 1 (bs [UInt8.ofNat (n % 128 + 128)])))) (hk.push _)
    (new_bytes tab (h.push (.cells 5 1 (bs [UInt8.ofNat (n % 128 + 128)]))) [UInt8.ofNat (n % 128 + 128)] 1 h.next 3 (Nat.le_trans hng hk.le) (H.get_push_self _ _) rfl _) (bs_one _) (by decide) (by omega) rfl
  generalize he : exR (EV tab) loop5 ⟨false, 19, tm, h⟩ = r0
  rw [loop5, exR_loop] at he
  have e' : appendD (EV tab) (h.push (Obj.cells 5 1 [Value.int IntKind.u8 ↑(UInt8.ofNat (n % 128 + 128)).toNat])) 23 false v (Value.slice (some { block := h.next, off := 0 }) 1 3) = some (v', h') := e
  simp only [sS, ofArgs, Int.reduceLT, Int.reduceLE, Int.reduceToNat, Int.reduceEq, readD, Nat.reduceLT, Nat.reduceEqDiff, Nat.reduceAdd, ↓reduceIte, binD, binInt, intBin, unD, convD, oLen, denseD, oFunc, oAppend, Nat.reduceMul, Nat.reduceLeDiff, fF53, tTGa, tTGb, t0, t3, iGeq, ge_iff_le, hge, decide_true, iOr, or128, shr7 n, e'] at he
  subst he
  refine ⟨_, h', v', rfl, by simp only [Tr.get_set, Nat.reduceEqDiff, ↓reduceIte], by simp only [Tr.get_set, Nat.reduceEqDiff, ↓reduceIte], ?_, k⟩
  rw [bs_append, List.length_append]
  exact r

theorem num5_loop (tab : Tab) (h0 : H) (hng : tab.ng ≤ h0.next) : ∀ (k n : Nat) (tm : Tr Value) (h : H) (v : Value) (l : List UInt8), n < 128 ^ (k + 1) → n < 18446744073709551616 → tm.get 0 = some (.int .u64 n) → tm.get 3 = some v →
    Row h0 h 5 1 v l.length (bs l) → Kept h0 h → l.length + k ≤ 1000 →
    ∃ tm' h' v' n' pre, exR (EV tab) loop5 ⟨false, 19, tm, h⟩ = some (.exit 0, ⟨false, 19, tm', h'⟩) ∧
      tm'.get 0 = some (.int .u64 (n' : Nat)) ∧ tm'.get 3 = some v' ∧ n' < 128 ∧ numL n = pre ++ [UInt8.ofNat n'] ∧ Row h0 h' 5 1 v' (l ++ pre).length (bs (l ++ pre)) ∧ Kept h0 h' ∧ (l ++ pre).length ≤ 1000 := by
  intro k
  induction k with
  | zero =>
    intro n tm h v l hn hu t0 t3 hr hk hl
    obtain ⟨tm', e, a, b⟩ := num5_exit tab n tm h v hn t0 t3
    exact ⟨tm', h, v, n, [], e, a, b, hn, by rw [numL, if_pos hn]; rfl, by simpa using hr, hk, by simpa using hl⟩
  | succ k ih =>
    intro n tm h v l hn hu t0 t3 hr hk hl
    by_cases hlt : n < 128
    · obtain ⟨tm', e, a, b⟩ := num5_exit tab n tm h v hlt t0 t3
      exact ⟨tm', h, v, n, [], e, a, b, hlt, by rw [numL, if_pos hlt]; rfl, by simpa using hr, hk, by simp; omega⟩
    · obtain ⟨tm1, h1, v1, e, a, b, r, kk⟩ := num5_round tab h0 hng n tm h v l hlt hu t0 t3 hr hk (by omega)
      rw [e, numL, if_neg hlt]
      obtain ⟨tm', h', v', n', pre, x1, x2, x3, x4, x5, x6, x7, x8⟩ := ih (n / 128) tm1 h1 v1 _ (Nat.div_lt_of_lt_mul (by rw [Nat.pow_succ, Nat.mul_comm] at hn; exact hn)) (by omega) a b r kk (by simp; omega)
      exact ⟨tm', h', v', n', UInt8.ofNat (n % 128 + 128) :: pre, x1, x2, x3, x4, by rw [x5]; rfl, by simpa using x6, x7, by simpa using x8⟩

/-- stackmachine.Number. -/
theorem num5 (tab : Tab) (hx : ∀ l, callExt (EV tab) 53 l = none) (n : Nat) (hu : n < 18446744073709551616) (h : H) (hng : tab.ng ≤ h.next) :
    ∃ v' h', callR (EV tab) 53 [.int .u64 n] h = some (v', h') ∧ Row h h' 5 1 v' (numL n).length (bs (numL n)) ∧ Kept h h' := by
  generalize he : callR (EV tab) 53 [.int .u64 n] h = r0
  rw [enter53 tab _ h (hx _) rfl, b53] at he
  obtain ⟨tm1, h1, v1, n1, pre, x1, x2, x3, x4, x5, x6, x7, x8⟩ := num5_loop tab h hng 9 n (((Tr.leaf.set 0 (.int .u64 n)).set 2 (.slice none 0 0)).set 3 (.slice none 0 0)) h (.slice none 0 0) [] (by omega) hu
    (by simp only [Tr.get_set, Nat.reduceEqDiff, ↓reduceIte]) (by simp only [Tr.get_set, Nat.reduceEqDiff, ↓reduceIte]) (Row.nil _ _ _ _) (Kept.refl h) (by decide)
  have hw : IntKind.u8.wrap (n1 : Int) = ((UInt8.ofNat n1).toNat : Int) := by rw [IntKind.wrap_u8, UInt8.toNat_ofNat']; omega
  obtain ⟨v2, h2, e, r, k⟩ := append_row (E := EV tab) (t := 23) (ti23 tab) rfl (ti5 tab) rfl (by rw [bt_eq]; show (5 : Nat) ≠ 86; decide) hng (x6.kept (Kept.push (Kept.refl h1) (.cells 5 1 (bs [UInt8.ofNat n1])))) (x7.push _)
    (new_bytes tab (h1.push (.cells 5 1 (bs [UInt8.ofNat n1]))) [UInt8.ofNat n1] 1 h1.next 3 (Nat.le_trans hng x7.le) (H.get_push_self _ _) rfl _) (bs_one _) (by decide) (by omega) rfl
  have e' : appendD (EV tab) (h1.push (Obj.cells 5 1 [Value.int IntKind.u8 ↑(UInt8.ofNat n1).toNat])) 23 false v1 (Value.slice (some { block := h1.next, off := 0 }) 1 3) = some (v2, h2) := e
  have x1' := x1
  rw [loop5] at x1'
  simp only [exR_seq, exR_block, r53_0, r53_1, p53_0, p53_1, runS_op, runS_nil, contS_some, wantedS_none, guardS_true, op_assign, ev_snil, same_some, putS_some, Nat.reduceLT, norm_some, andThen_normal, ofArgs, x1', unblock_exit, if_true] at he
  simp only [sS, ofArgs, Int.reduceLT, Int.reduceLE, Int.reduceToNat, Int.reduceEq, readD, Nat.reduceLT, Nat.reduceEqDiff, Nat.reduceAdd, ↓reduceIte, binD, binInt, intBin, unD, convD, oLen, denseD, oFunc, oAppend, Nat.reduceMul, Nat.reduceLeDiff, r53_5, p53_5, tTGa, tTGb, x2, x3, hw, e'] at he
  subst he
  refine ⟨v2, h2, rfl, ?_, k⟩
  rw [List.nil_append] at r
  rw [x5, bs_append, List.length_append]
  exact r

/-- Bytes that the run has made since 'h0'. -/
def Bytes (h0 h : H) (v : Value) (l : List UInt8) : Prop :=
  ∃ b c, v = .slice (some ⟨b, 0, none⟩) l.length c ∧ h0.next ≤ b ∧ b < h.next ∧ h.get b = some (.cells 5 1 (bs l))

theorem low6 (n : Nat) (h : n < 128) : IntKind.u8.wrap (n : Int) = ((UInt8.ofNat n).toNat : Int) := by rw [IntKind.wrap_u8, UInt8.toNat_ofNat']; omega
theorem numL_ne (n : Nat) : (numL n).length ≠ 0 := by rw [numL]; split <;> simp
theorem numL_le : ∀ (k n : Nat), n < 128 ^ (k + 1) → (numL n).length ≤ k + 1
  | 0, n, h => by rw [numL, if_pos h]; simp
  | k + 1, n, h => by
    rw [numL]
    split
    · simp
    · have := numL_le k (n / 128) (Nat.div_lt_of_lt_mul (by rw [Nat.pow_succ, Nat.mul_comm] at h; exact h))
      simp only [List.length_cons]; omega

/-! ### zigzag, fixed -/
def zz (s : Int) : Nat := if s < 0 then (-2 * s - 1).toNat else (2 * s).toNat
def zigV : Spec
  | [.int .i64 s] => if -2147483648 ≤ s ∧ s < 2147483648 then some (.int .u64 (zz s : Nat)) else none
  | _ => none
theorem f_zigzag {T : List (Nat × Spec)} (hT : Fine T) (hx : ∀ l, callExt (EV (tabL T)) 54 l = none) : Fine ((54, zigV) :: T) :=
  hT.step (F := Tryz.f54) (by kernel_rfl) (by kernel_rfl) hx fun args v hv => by
    unfold zigV at hv
    split at hv
    · rename_i s
      split at hv
      · rename_i hs
        cases hv
        refine ⟨rfl, rfl, ?_⟩
        generalize he : callR _ _ _ _ = r
        rw [enter54 _ _ _ (hx _) rfl] at he
        unfold zz
        by_cases q : s < 0
        · rw [if_pos q]
          have d : decide (s < 0) = true := decide_eq_true q
          have m1 : iMul .i64 (-2) s = some (.int .i64 (-2 * s)) := by unfold iMul; rw [IntWalk.i64_in _ (by omega)]
          have m2 : iSub .i64 (-2 * s) 1 = some (.int .i64 (-2 * s - 1)) := by unfold iSub; rw [IntWalk.i64_in _ (by omega)]
          have m3 : IntKind.u64.wrap (-2 * s - 1) = (((-2 * s - 1).toNat : Nat) : Int) := by rw [IntWalk.u64_in _ (by omega)]; omega
          simp only [sS, ofArgs, Int.reduceLT, Int.reduceLE, Int.reduceToNat, Int.reduceEq, readD, Nat.reduceLT, Nat.reduceEqDiff, Nat.reduceAdd, ↓reduceIte, binD, binInt, intBin, unD, convD, oLen, denseD, oFunc, oAppend, Nat.reduceMul, Nat.reduceLeDiff, fF54, tTGa, tTGb, sN, subD, loadD, isAggD, Obj.sub, Obj.get?, storeD, Obj.row, Obj.len, putL, Obj.put, fieldAddrD, indexAddrD, fieldD, indexD, placeOf, fillD, Nat.reduceSub, Nat.reduceLT, Nat.reduceBEq, Nat.reduceMod, Nat.reduceDiv, reduceCtorEq, ng_eq, tabL_ng, h0_next, iLss, d, m1, m2, m3] at he
          subst he
          exact ⟨_, rfl⟩
        · rw [if_neg q]
          have d : decide (s < 0) = false := decide_eq_false q
          have m1 : iMul .i64 2 s = some (.int .i64 (2 * s)) := by unfold iMul; rw [IntWalk.i64_in _ (by omega)]
          have m3 : IntKind.u64.wrap (2 * s) = (((2 * s).toNat : Nat) : Int) := by rw [IntWalk.u64_in _ (by omega)]; omega
          simp only [sS, ofArgs, Int.reduceLT, Int.reduceLE, Int.reduceToNat, Int.reduceEq, readD, Nat.reduceLT, Nat.reduceEqDiff, Nat.reduceAdd, ↓reduceIte, binD, binInt, intBin, unD, convD, oLen, denseD, oFunc, oAppend, Nat.reduceMul, Nat.reduceLeDiff, fF54, tTGa, tTGb, sN, subD, loadD, isAggD, Obj.sub, Obj.get?, storeD, Obj.row, Obj.len, putL, Obj.put, fieldAddrD, indexAddrD, fieldD, indexD, placeOf, fillD, Nat.reduceSub, Nat.reduceLT, Nat.reduceBEq, Nat.reduceMod, Nat.reduceDiv, reduceCtorEq, ng_eq, tabL_ng, h0_next, iLss, d, m1, m3] at he
          subst he
          exact ⟨_, rfl⟩
      · cases hv
    · cases hv
/-- One byte more. -/
theorem app1 (tab : Tab) {h0 h : H} (hng : tab.ng ≤ h0.next) {v : Value} {l : List UInt8} (hr : Row h0 h 5 1 v l.length (bs l)) (hk : Kept h0 h) (hl : l.length ≤ 1000000) (b : UInt8) :
    ∃ v' h', appendD (EV tab) (h.push (.cells 5 1 [.int .u8 (b.toNat : Nat)])) 23 false v (.slice (some ⟨h.next, 0, none⟩) 1 3) = some (v', h') ∧ Row h0 h' 5 1 v' (l ++ [b]).length (bs (l ++ [b])) ∧ Kept h0 h' := by
  obtain ⟨v', h', e, r, k⟩ := append_row (E := EV tab) (t := 23) (ti23 tab) rfl (ti5 tab) rfl (by rw [bt_eq]; show (5 : Nat) ≠ 86; decide) hng (hr.kept (Kept.push (Kept.refl h) (.cells 5 1 (bs [b])))) (hk.push _)
    (new_bytes tab (h.push (.cells 5 1 (bs [b]))) [b] 1 h.next 3 (Nat.le_trans hng hk.le) (H.get_push_self _ _) rfl _) (bs_one _) (by decide) hl rfl
  refine ⟨v', h', e, ?_, k⟩
  rw [bs_append, List.length_append]
  exact r

def fixL : Nat → Nat → List UInt8
  | _, 0 => []
  | n, k + 1 => UInt8.ofNat (n % 256) :: fixL (n / 256) k
theorem fixL_len : ∀ k n, (fixL n k).length = k
  | 0, _ => rfl
  | k + 1, n => by simp [fixL, fixL_len k]
theorem shr8 (n : Nat) : iShr .u64 (n : Int) 8 = some (.int .u64 ((n / 256 : Nat) : Int)) := by
  unfold iShr
  rw [if_neg (by decide)]
  have h1 : (2 : Int) ^ (min (8 : Int).toNat IntKind.u64.bits) = 256 := rfl
  have h2 : (n : Int).fdiv 256 = ((n / 256 : Nat) : Int) := by rw [Int.fdiv_eq_ediv_of_nonneg _ (by decide)]; rfl
  rw [h1, h2]
theorem low256 (n : Nat) : IntKind.u8.wrap (n : Int) = (((UInt8.ofNat (n % 256)).toNat : Nat) : Int) := by rw [IntKind.wrap_u8, UInt8.toNat_ofNat']; omega
noncomputable def fixLoop : Code := .loop (.seq rg55_3 (.seq (.cond (Operand.tmp 8) .skip (Code.exit 0)) (.seq (.block 1 (.seq rg55_4 rg55_5)) rg55_6)))
theorem fix_loop (tab : Tab) (h0 : H) (hng : tab.ng ≤ h0.next) (m : Nat) (hm : m ≤ 1000) : ∀ (k i n : Nat) (tm : Tr Value) (h : H) (v : Value) (l : List UInt8), i + k = m → l.length = i → tm.get 0 = some (.int .u64 n) → tm.get 5 = some v → tm.get 6 = some (.int .i64 m) → tm.get 7 = some (.int .i64 i) →
    Row h0 h 5 1 v l.length (bs l) → Kept h0 h →
    ∃ tm' h' v', exR (EV tab) fixLoop ⟨false, 18, tm, h⟩ = some (.exit 0, ⟨false, 18, tm', h'⟩) ∧ tm'.get 5 = some v' ∧ Row h0 h' 5 1 v' (l ++ fixL n k).length (bs (l ++ fixL n k)) ∧ Kept h0 h' := by
  intro k
  induction k with
  | zero =>
    intro i n tm h v l hi hl t0 t5 t6 t7 hr hk
    have hlt : ¬ i < m := by omega
    generalize he : exR (EV tab) fixLoop ⟨false, 18, tm, h⟩ = r
    rw [fixLoop, exR_loop] at he
    simp only [sS, ofArgs, Int.reduceLT, Int.reduceLE, Int.reduceToNat, Int.reduceEq, readD, Nat.reduceLT, Nat.reduceEqDiff, Nat.reduceAdd, ↓reduceIte, binD, binInt, intBin, unD, convD, oLen, denseD, oFunc, oAppend, Nat.reduceMul, Nat.reduceLeDiff, fF55, tTGa, tTGb, t6, t7, iLss, Int.ofNat_lt, hlt, decide_false] at he
    subst he
    refine ⟨_, h, v, rfl, by simp only [Tr.get_set, Nat.reduceEqDiff, ↓reduceIte, t5], ?_, hk⟩
    rw [fixL, List.append_nil]; exact hr
  | succ k ih =>
    intro i n tm h v l hi hl t0 t5 t6 t7 hr hk
    have hlt : i < m := by omega
    obtain ⟨v1, h1, e, r, kk⟩ := app1 tab hng hr hk (by omega) (UInt8.ofNat (n % 256))
    obtain ⟨tm1, e1, a0, a5, a6, a7⟩ : ∃ tm1, exR (EV tab) fixLoop ⟨false, 18, tm, h⟩ = exR (EV tab) fixLoop ⟨false, 18, tm1, h1⟩ ∧ tm1.get 0 = some (.int .u64 ((n / 256 : Nat) : Int)) ∧ tm1.get 5 = some v1 ∧ tm1.get 6 = some (.int .i64 m) ∧ tm1.get 7 = some (.int .i64 ((i + 1 : Nat) : Int)) := by
      generalize he : exR (EV tab) fixLoop ⟨false, 18, tm, h⟩ = r
      rw [fixLoop, exR_loop] at he
      simp only [sS, ofArgs, Int.reduceLT, Int.reduceLE, Int.reduceToNat, Int.reduceEq, readD, Nat.reduceLT, Nat.reduceEqDiff, Nat.reduceAdd, ↓reduceIte, binD, binInt, intBin, unD, convD, oLen, denseD, oFunc, oAppend, Nat.reduceMul, Nat.reduceLeDiff, fF55, tTGa, tTGb, t0, t5, t6, t7, iLss, Int.ofNat_lt, hlt, decide_true, low256, e, shr8, add1 i (by omega)] at he
      subst he
      refine ⟨_, rfl, ?_, ?_, ?_, ?_⟩ <;> simp only [Tr.get_set, Nat.reduceEqDiff, ↓reduceIte, t6]
    obtain ⟨tm', h', v', x1, x2, x3, x4⟩ := ih (i + 1) (n / 256) tm1 h1 v1 (l ++ [UInt8.ofNat (n % 256)]) (by omega) (by simp; omega) a0 a5 a6 a7 r kk
    refine ⟨tm', h', v', by rw [e1]; exact x1, x2, ?_, x4⟩
    rw [fixL]
    rw [List.append_assoc] at x3
    exact x3
theorem fixed_run (tab : Tab) (hx : ∀ l, callExt (EV tab) 55 l = none) (n m : Nat) (hm : m ≤ 1000) (h : H) (hng : tab.ng ≤ h.next) :
    ∃ v' h', callR (EV tab) 55 [.int .u64 n, .int .i64 m] h = some (v', h') ∧ Row h h' 5 1 v' m (bs (fixL n m)) ∧ Kept h h' := by
  have key : ∀ tm h1, (h1 = h ∧ tm.get 0 = some (.int .u64 n) ∧ tm.get 5 = some (.slice none 0 0) ∧ tm.get 6 = some (.int .i64 m) ∧ tm.get 7 = some (.int .i64 0)) → ∃ x s', exR (EV tab) fixLoop ⟨false, 18, tm, h1⟩ = some (x, s') ∧
      (x = .exit 0 ∧ ∃ tm' h' v', s' = ⟨false, 18, tm', h'⟩ ∧ tm'.get 5 = some v' ∧ Row h h' 5 1 v' m (bs (fixL n m)) ∧ Kept h h') := fun tm h1 p => by
    obtain ⟨rfl, p0, p5, p6, p7⟩ := p
    obtain ⟨tm', h', v', x1, x2, x3, x4⟩ := fix_loop tab h1 hng m hm m 0 n tm h1 (.slice none 0 0) [] (by omega) rfl p0 p5 p6 p7 (Row.nil _ _ _ _) (Kept.refl h1)
    rw [List.nil_append, fixL_len] at x3
    exact ⟨_, _, x1, rfl, tm', h', v', rfl, x2, x3, x4⟩
  generalize he : callR _ _ _ _ = r
  rw [enter55 _ _ _ (hx _) rfl] at he
  simp only [sS, ofArgs, Int.reduceLT, Int.reduceLE, Int.reduceToNat, Int.reduceEq, readD, Nat.reduceLT, Nat.reduceEqDiff, Nat.reduceAdd, ↓reduceIte, binD, binInt, intBin, unD, convD, oLen, denseD, oFunc, oAppend, Nat.reduceMul, Nat.reduceLeDiff, b55, p55_0, r55_0, p55_1, r55_1, p55_2, r55_2, tTGa, tTGb] at he
  obtain ⟨x1, s1, ⟨rfl, tm', h', v', rfl, x2, x3, x4⟩, he⟩ := use_run key (fun o => finish (EV tab) [ResultVar.tmp 4] (andThen (unblock 0 o) (exR (EV tab) (.seq rg55_7 .ret)))) he (by
    refine ⟨rfl, ?_, ?_, ?_, ?_⟩ <;> simp only [Tr.get_set, Nat.reduceEqDiff, ↓reduceIte])
  simp only [sS, ofArgs, Int.reduceLT, Int.reduceLE, Int.reduceToNat, Int.reduceEq, readD, Nat.reduceLT, Nat.reduceEqDiff, Nat.reduceAdd, ↓reduceIte, binD, binInt, intBin, unD, convD, oLen, denseD, oFunc, oAppend, Nat.reduceMul, Nat.reduceLeDiff, fF55, tTGa, tTGb, x2] at he
  subst he
  exact ⟨v', h', rfl, x3, x4⟩
/-! ### operand -/
def u64 (x : Int) : Nat := (x % 18446744073709551616).toNat
theorem u64_wrap (x : Int) : IntKind.u64.wrap x = ((u64 x : Nat) : Int) := by
  have : IntKind.u64.wrap x = x % 18446744073709551616 := rfl
  rw [this]; unfold u64; omega
def opB (c : Nat) (t u : List UInt8) (num : Nat) (imm size : Int) : List UInt8 :=
  if c = 84 then [UInt8.ofNat (codeT t).1.toNat] else if c = 85 then [UInt8.ofNat (codeT u).1.toNat] else if c = 110 ∨ c = 76 then numL num else if c = 115 then numL (zz imm) else
  if c = 100 then fixL (u64 imm) 4 else if c = 119 then fixL num 8 else if c = 80 then numL imm.toNat else numL size.toNat
theorem row_bytes {h h' : H} {v : Value} {l : List UInt8} {n : Nat} (hn : n = l.length) (r : Row h h' 5 1 v n (bs l)) (hl : l ≠ []) : Bytes h h' v l := by
  subst hn
  rcases r with ⟨_, h2, _⟩ | ⟨b, r1, r2, r3, r4, r5⟩
  · exact absurd (List.eq_nil_of_length_eq_zero h2) hl
  · exact ⟨b, 0, r1, r2, r3, r4⟩
theorem Bytes.weak {h h1 h' : H} {v : Value} {l : List UInt8} (b : Bytes h1 h' v l) (k : h.next ≤ h1.next) : Bytes h h' v l := by
  obtain ⟨c, d, r1, r2, r3, r4⟩ := b
  exact ⟨c, d, r1, Nat.le_trans k r2, r3, r4⟩
theorem codeT_byte (s : List UInt8) : IntKind.u8.wrap (codeT s).1 = (((UInt8.ofNat (codeT s).1.toNat).toNat : Nat) : Int) := by
  have h : 0 ≤ (codeT s).1 ∧ (codeT s).1 < 256 := by
    have := opsW_le s
    unfold codeT
    split
    · exact ⟨by decide, by decide⟩
    · split
      · exact ⟨by decide, by decide⟩
      · split
        · exact ⟨by decide, by decide⟩
        · split
          · exact ⟨by decide, by decide⟩
          · split
            · show 0 ≤ (opsW s).1 + (if s.head? = some 105 then 64 else 0) ∧ (opsW s).1 + (if s.head? = some 105 then 64 else 0) < 256
              split <;> omega
            · exact ⟨Int.le_refl _, by show (0 : Int) < 256; decide⟩
  rw [IntKind.wrap_u8, UInt8.toNat_ofNat']
  omega
theorem zz_lt (s : Int) (h : -2147483648 ≤ s ∧ s < 2147483648) : zz s < 18446744073709551616 := by
  unfold zz; split <;> omega
theorem fixL_ne (n k : Nat) : fixL n (k + 1) ≠ [] := by simp [fixL]
theorem numL_nil (n : Nat) : numL n ≠ [] := fun h => numL_ne n (by rw [h]; rfl)
structure Ops (tab : Tab) : Prop where
  x1 : ∀ l, callExt (EV tab) 35 l = none
  x2 : ∀ l, callExt (EV tab) 53 l = none
  x3 : ∀ l, callExt (EV tab) 55 l = none
  code : ∀ s h, callR (EV tab) 52 [.string ⟨⟨s⟩⟩] h = some (.tuple ⟨[.int .i64 (codeT s).1, .int .i64 (codeT s).2]⟩, h)
  zig : ∀ s h, -2147483648 ≤ s ∧ s < 2147483648 → callR (EV tab) 54 [.int .i64 s] h = some (.int .u64 (zz s : Nat), h)
theorem operand_run (tab : Tab) (hO : Ops tab) (h : H) (hng : tab.ng ≤ h.next) (op : Int) (t u : List UInt8) (num : Nat) (imm size : Int) (hn : num < 18446744073709551616) (hi : -2147483648 ≤ imm ∧ imm < 2147483648) (hs : 0 ≤ size ∧ size ≤ 65536)
    (c : Nat) (hc : c ∈ [84, 85, 110, 76, 115, 100, 119, 80, 70]) (hp : c = 80 → 0 ≤ imm) :
    ∃ v' h', callR (EV tab) 35 [insV op t u num imm size, .int .i32 c] h = some (v', h') ∧ Bytes h h' v' (opB c t u num imm size) ∧ Kept h h' := by
  obtain ⟨x1, x2, x3, code, zig⟩ := hO
  have hk := (Kept.refl h).push (.cells 41 6 (insL op t u num imm size))
  have hh : tab.ng ≤ (h.push (.cells 41 6 (insL op t u num imm size))).next := by rw [H.next_push]; omega
  have hnn : ¬ h.next < tab.ng := by omega
  have hlit : Kept h ((h.push (.cells 41 6 (insL op t u num imm size))).push (.cells 5 1 [])) := hk.push _
  simp only [List.mem_cons, List.not_mem_nil, or_false] at hc
  simp only [insL] at hh hk
  rcases hc with rfl | rfl | rfl | rfl | rfl | rfl | rfl | rfl | rfl
  · generalize he : callR _ _ _ _ = r
    rw [enter35 _ _ _ (x1 _) rfl] at he
    simp only [sS, ofArgs, Int.reduceLT, Int.reduceLE, Int.reduceToNat, Int.reduceEq, readD, Nat.reduceLT, Nat.reduceEqDiff, Nat.reduceAdd, ↓reduceIte, binD, binInt, intBin, unD, convD, oLen, denseD, oFunc, oAppend, Nat.reduceMul, Nat.reduceLeDiff, fF35, tTGa, tTGb, sN, subD, loadD, isAggD, Obj.sub, Obj.get?, storeD, Obj.row, Obj.len, putL, Obj.put, fieldAddrD, indexAddrD, fieldD, indexD, placeOf, fillD, Nat.reduceSub, Nat.reduceLT, Nat.reduceBEq, Nat.reduceMod, Nat.reduceDiv, reduceCtorEq, ng_eq, tabL_ng, insV, insL, hnn, iEql, Int.cast_ofNat_Int, Int.reduceBEq, code, codeT_byte] at he
    subst he
    refine ⟨_, _, rfl, ⟨h.next + 1, 3, rfl, by omega, by simp only [H.next_push]; omega, ?_⟩, (Kept.refl h).push _ |>.push _⟩
    simp only [H.get_push, H.next_push, ↓reduceIte]
    rfl
  · generalize he : callR _ _ _ _ = r
    rw [enter35 _ _ _ (x1 _) rfl] at he
    simp only [sS, ofArgs, Int.reduceLT, Int.reduceLE, Int.reduceToNat, Int.reduceEq, readD, Nat.reduceLT, Nat.reduceEqDiff, Nat.reduceAdd, ↓reduceIte, binD, binInt, intBin, unD, convD, oLen, denseD, oFunc, oAppend, Nat.reduceMul, Nat.reduceLeDiff, fF35, tTGa, tTGb, sN, subD, loadD, isAggD, Obj.sub, Obj.get?, storeD, Obj.row, Obj.len, putL, Obj.put, fieldAddrD, indexAddrD, fieldD, indexD, placeOf, fillD, Nat.reduceSub, Nat.reduceLT, Nat.reduceBEq, Nat.reduceMod, Nat.reduceDiv, reduceCtorEq, ng_eq, tabL_ng, insV, insL, hnn, iEql, Int.cast_ofNat_Int, Int.reduceBEq, code, codeT_byte] at he
    subst he
    refine ⟨_, _, rfl, ⟨h.next + 1, 3, rfl, by omega, by simp only [H.next_push]; omega, ?_⟩, (Kept.refl h).push _ |>.push _⟩
    simp only [H.get_push, H.next_push, ↓reduceIte]
    rfl
  · obtain ⟨v', h', e, r, k⟩ := num5 tab x2 num hn (h.push (.cells 41 6 [.int .i64 op, .string ⟨⟨t⟩⟩, .string ⟨⟨u⟩⟩, .int .u64 num, .int .i64 imm, .int .i64 size])) hh
    generalize he : callR _ _ _ _ = r0
    rw [enter35 _ _ _ (x1 _) rfl] at he
    simp only [sS, ofArgs, Int.reduceLT, Int.reduceLE, Int.reduceToNat, Int.reduceEq, readD, Nat.reduceLT, Nat.reduceEqDiff, Nat.reduceAdd, ↓reduceIte, binD, binInt, intBin, unD, convD, oLen, denseD, oFunc, oAppend, Nat.reduceMul, Nat.reduceLeDiff, fF35, tTGa, tTGb, sN, subD, loadD, isAggD, Obj.sub, Obj.get?, storeD, Obj.row, Obj.len, putL, Obj.put, fieldAddrD, indexAddrD, fieldD, indexD, placeOf, fillD, Nat.reduceSub, Nat.reduceLT, Nat.reduceBEq, Nat.reduceMod, Nat.reduceDiv, reduceCtorEq, ng_eq, tabL_ng, insV, insL, hnn, iEql, Int.cast_ofNat_Int, Int.reduceBEq, e] at he
    subst he
    exact ⟨v', h', rfl, (row_bytes (l := numL num) rfl r (numL_nil _)).weak hk.le, hk.trans k⟩
  · obtain ⟨v', h', e, r, k⟩ := num5 tab x2 num hn (h.push (.cells 41 6 [.int .i64 op, .string ⟨⟨t⟩⟩, .string ⟨⟨u⟩⟩, .int .u64 num, .int .i64 imm, .int .i64 size])) hh
    generalize he : callR _ _ _ _ = r0
    rw [enter35 _ _ _ (x1 _) rfl] at he
    simp only [sS, ofArgs, Int.reduceLT, Int.reduceLE, Int.reduceToNat, Int.reduceEq, readD, Nat.reduceLT, Nat.reduceEqDiff, Nat.reduceAdd, ↓reduceIte, binD, binInt, intBin, unD, convD, oLen, denseD, oFunc, oAppend, Nat.reduceMul, Nat.reduceLeDiff, fF35, tTGa, tTGb, sN, subD, loadD, isAggD, Obj.sub, Obj.get?, storeD, Obj.row, Obj.len, putL, Obj.put, fieldAddrD, indexAddrD, fieldD, indexD, placeOf, fillD, Nat.reduceSub, Nat.reduceLT, Nat.reduceBEq, Nat.reduceMod, Nat.reduceDiv, reduceCtorEq, ng_eq, tabL_ng, insV, insL, hnn, iEql, Int.cast_ofNat_Int, Int.reduceBEq, e] at he
    subst he
    exact ⟨v', h', rfl, (row_bytes (l := numL num) rfl r (numL_nil _)).weak hk.le, hk.trans k⟩
  · obtain ⟨v', h', e, r, k⟩ := num5 tab x2 (zz imm) (zz_lt imm hi) (h.push (.cells 41 6 [.int .i64 op, .string ⟨⟨t⟩⟩, .string ⟨⟨u⟩⟩, .int .u64 num, .int .i64 imm, .int .i64 size])) hh
    generalize he : callR _ _ _ _ = r0
    rw [enter35 _ _ _ (x1 _) rfl] at he
    simp only [sS, ofArgs, Int.reduceLT, Int.reduceLE, Int.reduceToNat, Int.reduceEq, readD, Nat.reduceLT, Nat.reduceEqDiff, Nat.reduceAdd, ↓reduceIte, binD, binInt, intBin, unD, convD, oLen, denseD, oFunc, oAppend, Nat.reduceMul, Nat.reduceLeDiff, fF35, tTGa, tTGb, sN, subD, loadD, isAggD, Obj.sub, Obj.get?, storeD, Obj.row, Obj.len, putL, Obj.put, fieldAddrD, indexAddrD, fieldD, indexD, placeOf, fillD, Nat.reduceSub, Nat.reduceLT, Nat.reduceBEq, Nat.reduceMod, Nat.reduceDiv, reduceCtorEq, ng_eq, tabL_ng, insV, insL, hnn, iEql, Int.cast_ofNat_Int, Int.reduceBEq, e, zig _ _ hi] at he
    subst he
    exact ⟨v', h', rfl, (row_bytes (l := numL (zz imm)) rfl r (numL_nil _)).weak hk.le, hk.trans k⟩
  · obtain ⟨v', h', e, r, k⟩ := fixed_run tab x3 (u64 imm) 4 (by decide) (h.push (.cells 41 6 [.int .i64 op, .string ⟨⟨t⟩⟩, .string ⟨⟨u⟩⟩, .int .u64 num, .int .i64 imm, .int .i64 size])) hh
    simp only [Int.cast_ofNat_Int] at e
    generalize he : callR _ _ _ _ = r0
    rw [enter35 _ _ _ (x1 _) rfl] at he
    simp only [sS, ofArgs, Int.reduceLT, Int.reduceLE, Int.reduceToNat, Int.reduceEq, readD, Nat.reduceLT, Nat.reduceEqDiff, Nat.reduceAdd, ↓reduceIte, binD, binInt, intBin, unD, convD, oLen, denseD, oFunc, oAppend, Nat.reduceMul, Nat.reduceLeDiff, fF35, tTGa, tTGb, sN, subD, loadD, isAggD, Obj.sub, Obj.get?, storeD, Obj.row, Obj.len, putL, Obj.put, fieldAddrD, indexAddrD, fieldD, indexD, placeOf, fillD, Nat.reduceSub, Nat.reduceLT, Nat.reduceBEq, Nat.reduceMod, Nat.reduceDiv, reduceCtorEq, ng_eq, tabL_ng, insV, insL, hnn, iEql, Int.cast_ofNat_Int, Int.reduceBEq, e, u64_wrap] at he
    subst he
    exact ⟨v', h', rfl, (row_bytes (l := fixL (u64 imm) 4) (fixL_len _ _).symm r (fixL_ne _ 3)).weak hk.le, hk.trans k⟩
  · obtain ⟨v', h', e, r, k⟩ := fixed_run tab x3 num 8 (by decide) (h.push (.cells 41 6 [.int .i64 op, .string ⟨⟨t⟩⟩, .string ⟨⟨u⟩⟩, .int .u64 num, .int .i64 imm, .int .i64 size])) hh
    simp only [Int.cast_ofNat_Int] at e
    generalize he : callR _ _ _ _ = r0
    rw [enter35 _ _ _ (x1 _) rfl] at he
    simp only [sS, ofArgs, Int.reduceLT, Int.reduceLE, Int.reduceToNat, Int.reduceEq, readD, Nat.reduceLT, Nat.reduceEqDiff, Nat.reduceAdd, ↓reduceIte, binD, binInt, intBin, unD, convD, oLen, denseD, oFunc, oAppend, Nat.reduceMul, Nat.reduceLeDiff, fF35, tTGa, tTGb, sN, subD, loadD, isAggD, Obj.sub, Obj.get?, storeD, Obj.row, Obj.len, putL, Obj.put, fieldAddrD, indexAddrD, fieldD, indexD, placeOf, fillD, Nat.reduceSub, Nat.reduceLT, Nat.reduceBEq, Nat.reduceMod, Nat.reduceDiv, reduceCtorEq, ng_eq, tabL_ng, insV, insL, hnn, iEql, Int.cast_ofNat_Int, Int.reduceBEq, e] at he
    subst he
    exact ⟨v', h', rfl, (row_bytes (l := fixL num 8) (fixL_len _ _).symm r (fixL_ne _ 7)).weak hk.le, hk.trans k⟩
  · obtain ⟨v', h', e, r, k⟩ := num5 tab x2 imm.toNat (by omega) (h.push (.cells 41 6 [.int .i64 op, .string ⟨⟨t⟩⟩, .string ⟨⟨u⟩⟩, .int .u64 num, .int .i64 imm, .int .i64 size])) hh
    generalize he : callR _ _ _ _ = r0
    rw [enter35 _ _ _ (x1 _) rfl] at he
    have hw : IntKind.u64.wrap imm = ((imm.toNat : Nat) : Int) := by rw [IntWalk.u64_in _ (by have := hp rfl; omega)]; have := hp rfl; omega
    simp only [sS, ofArgs, Int.reduceLT, Int.reduceLE, Int.reduceToNat, Int.reduceEq, readD, Nat.reduceLT, Nat.reduceEqDiff, Nat.reduceAdd, ↓reduceIte, binD, binInt, intBin, unD, convD, oLen, denseD, oFunc, oAppend, Nat.reduceMul, Nat.reduceLeDiff, fF35, tTGa, tTGb, sN, subD, loadD, isAggD, Obj.sub, Obj.get?, storeD, Obj.row, Obj.len, putL, Obj.put, fieldAddrD, indexAddrD, fieldD, indexD, placeOf, fillD, Nat.reduceSub, Nat.reduceLT, Nat.reduceBEq, Nat.reduceMod, Nat.reduceDiv, reduceCtorEq, ng_eq, tabL_ng, insV, insL, hnn, iEql, Int.cast_ofNat_Int, Int.reduceBEq, e, hw] at he
    subst he
    exact ⟨v', h', rfl, (row_bytes (l := numL imm.toNat) rfl r (numL_nil _)).weak hk.le, hk.trans k⟩
  · obtain ⟨v', h', e, r, k⟩ := num5 tab x2 size.toNat (by omega) (h.push (.cells 41 6 [.int .i64 op, .string ⟨⟨t⟩⟩, .string ⟨⟨u⟩⟩, .int .u64 num, .int .i64 imm, .int .i64 size])) hh
    generalize he : callR _ _ _ _ = r0
    rw [enter35 _ _ _ (x1 _) rfl] at he
    have hw : IntKind.u64.wrap size = ((size.toNat : Nat) : Int) := by rw [IntWalk.u64_in _ (by omega)]; omega
    simp only [sS, ofArgs, Int.reduceLT, Int.reduceLE, Int.reduceToNat, Int.reduceEq, readD, Nat.reduceLT, Nat.reduceEqDiff, Nat.reduceAdd, ↓reduceIte, binD, binInt, intBin, unD, convD, oLen, denseD, oFunc, oAppend, Nat.reduceMul, Nat.reduceLeDiff, fF35, tTGa, tTGb, sN, subD, loadD, isAggD, Obj.sub, Obj.get?, storeD, Obj.row, Obj.len, putL, Obj.put, fieldAddrD, indexAddrD, fieldD, indexD, placeOf, fillD, Nat.reduceSub, Nat.reduceLT, Nat.reduceBEq, Nat.reduceMod, Nat.reduceDiv, reduceCtorEq, ng_eq, tabL_ng, insV, insL, hnn, iEql, Int.cast_ofNat_Int, Int.reduceBEq, e, hw] at he
    subst he
    exact ⟨v', h', rfl, (row_bytes (l := numL size.toNat) rfl r (numL_nil _)).weak hk.le, hk.trans k⟩
/-! ### bytes -/
/-- append to a row: what it leaves alone, too. -/
theorem append_row2 {E : Env} {t e : Nat} {i j : Info} (hi : E.info t = some i) (hd : i.desc = .slice e) (hj : E.info e = some j) (hb : (Nat.ble j.bytes 1000 && Nat.ble 1 j.bytes) = true) (he : e ≠ E.bt)
    {h0 h : H} {v : Value} {n : Nat} {l : List Value} (hng : E.ng ≤ h0.next) (hr : Row h0 h e j.size v n l) (hk : Kept h0 h) {x : Value} {zeros : Bool} {new : List Value} {m : Nat}
    (hnew : newD E h j.zero j.size zeros x = some (new, m)) (h1 : new.all isOne = true) (hm : m ≤ 1000000) (hn : n ≤ 1000000) (hl : new.length = m * j.size) :
    ∃ v' h', appendD E h t zeros v x = some (v', h') ∧ Row h0 h' e j.size v' (n + m) (l ++ new) ∧ Kept h0 h' ∧ h.next ≤ h'.next ∧ ∀ c, c < h.next → (∀ q, v = .slice (some ⟨q, 0, none⟩) n 0 → c ≠ q) → h'.get c = h.get c := by
  simp only [Bool.and_eq_true] at hb
  have hc : (!(new.all isOne && Nat.ble m 1000000 && Nat.ble j.bytes 1000 && Nat.ble 1 j.bytes && new.length == m * j.size)) = false := by
    rw [h1, hb.1, hb.2, hl]
    simp [hm]
  unfold appendD
  simp only [hi, hd, hj, hnew, hc, Bool.false_eq_true, if_false]
  rcases hr with ⟨rfl, rfl, rfl⟩ | ⟨b, rfl, r2, r3, r4, r5⟩
  · simp only
    by_cases hm0 : m = 0
    · subst hm0
      have hn0 : new = [] := by
        cases new with
        | nil => rfl
        | cons a l => simp at hl
      subst hn0
      exact ⟨_, _, by rw [if_pos rfl], .inl ⟨rfl, rfl, rfl⟩, hk, Nat.le_refl _, fun _ _ _ => rfl⟩
    · refine ⟨_, _, by rw [if_neg hm0], .inr ⟨h.next, by rw [Nat.zero_add], hk.le, ?_, ?_, ?_⟩, hk.push _, by rw [H.next_push]; omega, fun c hc _ => H.get_push_lt _ _ hc⟩
      · rw [H.next_push]; omega
      · rw [H.get_push_self]; rfl
      · simp [hl]
  · have hg : (decide (b < E.ng) || !(Nat.ble n 1000000)) = false := by
      have : ¬ b < E.ng := by omega
      simp [this, hn]
    simp only [hg, Bool.false_eq_true, if_false, r4, Obj.row]
    rw [if_neg (by simp)]
    have hs := sub_all e j.size l
    rw [r5] at hs
    simp only [hs]
    rw [if_pos trivial, if_neg he]
    refine ⟨_, _, rfl, .inr ⟨h.next, rfl, hk.le, ?_, ?_, ?_⟩, (hk.kill r2).push _, by rw [H.next_push, H.next_kill]; omega, fun c hc hq => ?_⟩
    · rw [H.next_push]; exact Nat.lt_succ_self _
    · exact H.get_push_self (h.kill b) _
    · rw [List.length_append, r5, hl, Nat.add_mul]
    · rw [H.get_push_lt _ _ (by rw [H.next_kill]; exact hc), H.get_kill, if_neg (fun e => hq b rfl e.symm)]

/-- Bytes under way: what append has made, or the first literal. -/
def Outb (lo : Nat) (h1 h : H) (v : Value) (l : List UInt8) : Prop := Row h1 h 5 1 v l.length (bs l) ∨ ∃ b, v = .slice (some ⟨b, 0, none⟩) 1 3 ∧ lo ≤ b ∧ b < h1.next ∧ h.get b = some (.cells 5 1 (bs l)) ∧ l.length = 1
theorem Outb.kept {lo : Nat} {h1 h h' : H} {v : Value} {l : List UInt8} (o : Outb lo h1 h v l) (k : Kept h h') (kk : h1.next ≤ h.next) : Outb lo h1 h' v l := by
  rcases o with r | ⟨b, e, b1, b2, g, hl⟩
  · exact .inl (r.kept k)
  · exact .inr ⟨b, e, b1, b2, by rw [k.get _ (Nat.lt_of_lt_of_le b2 kk)]; exact g, hl⟩
theorem out_app (tab : Tab) {lo : Nat} (hlo : tab.ng ≤ lo) {h1 h : H} (hng : tab.ng ≤ h1.next) {v : Value} {l : List UInt8} (o : Outb lo h1 h v l) (hk : Kept h1 h) (hl : l.length ≤ 1000) {hx : H} {v2 : Value} {l2 : List UInt8} (hb : Bytes hx h v2 l2) (hxn : tab.ng ≤ hx.next) (h2 : l2 ≠ []) (hl2 : l2.length ≤ 1000)
    {bit : Nat} {us : ByteArray} {i : Nat} (hbit : bit < h.next) (hit : h.get bit = some (.iter us i)) :
    ∃ v' h', appendD (EV tab) h 23 false v v2 = some (v', h') ∧ Row h1 h' 5 1 v' (l ++ l2).length (bs (l ++ l2)) ∧ Kept h1 h' ∧ h.next ≤ h'.next ∧ h'.get bit = some (.iter us i) := by
  obtain ⟨b2, c2, rfl, q1, q2, q3⟩ := hb
  have hnw := new_bytes tab h l2 l2.length b2 c2 (by omega) q3 rfl
  rcases o with r | ⟨b, rfl, b1, b3, g, hl1⟩
  · obtain ⟨v', h', e, rr, k, k2, fr⟩ := append_row2 (E := EV tab) (t := 23) (ti23 tab) rfl (ti5 tab) rfl (by rw [bt_eq]; show (5 : Nat) ≠ 86; decide) hng r hk (hnw _) (bs_one _) (by omega) (by omega) (by rw [bs_length, Nat.mul_one])
    refine ⟨v', h', e, by rw [bs_append, List.length_append]; exact rr, k, k2, ?_⟩
    rw [fr bit hbit ?_]
    · exact hit
    · intro q hq hbq
      subst hq
      rcases r with ⟨r1, _, _⟩ | ⟨b', r1, _, _, r4, _⟩
      · cases r1
      · cases r1
        rw [← hbq, hit] at r4
        cases r4
  · have hpos : 0 < l2.length := List.length_pos_iff.2 h2
    have e := append_full (E := EV tab) (t := 23) (ti23 tab) rfl (ti5 tab) rfl (h := h) (b := b) (n := 1) (c := 3) (l := bs l) (show tab.ng ≤ b by omega) g (by rw [bs_length, hl1]; rfl) (hnw _) (bs_one _) (by omega) (by decide) (by rw [bs_length, Nat.mul_one]) (by decide) (by omega)
    refine ⟨_, _, e, .inr ⟨h.next, ?_, hk.le, by rw [H.next_push]; omega, ?_, ?_⟩, hk.push _, by rw [H.next_push]; omega, ?_⟩
    · rw [List.length_append, hl1]
    · rw [H.get_push_self, bs_append]
    · rw [bs_length, Nat.mul_one]
    · rw [H.get_push_lt _ _ hbit]; exact hit
def opsL (us : List UInt8) (t u : List UInt8) (num : Nat) (imm size : Int) : List UInt8 := us.flatMap fun c => opB c.toNat t u num imm size
theorem opB_len (c : Nat) (t u : List UInt8) (num : Nat) (imm size : Int) (hn : num < 18446744073709551616) (hi : -2147483648 ≤ imm ∧ imm < 2147483648) (hs : 0 ≤ size ∧ size ≤ 65536) : (opB c t u num imm size).length ≤ 10 ∧ opB c t u num imm size ≠ [] := by
  have h10 : ∀ n, n < 18446744073709551616 → (numL n).length ≤ 10 := fun n h => numL_le 9 n (by omega)
  unfold opB
  split
  · exact ⟨by simp, by simp⟩
  · split
    · exact ⟨by simp, by simp⟩
    · split
      · exact ⟨h10 _ hn, numL_nil _⟩
      · split
        · exact ⟨h10 _ (zz_lt _ hi), numL_nil _⟩
        · split
          · exact ⟨by rw [fixL_len]; decide, fixL_ne _ 3⟩
          · split
            · exact ⟨by rw [fixL_len]; decide, fixL_ne _ 7⟩
            · split
              · exact ⟨h10 _ (by omega), numL_nil _⟩
              · exact ⟨h10 _ (by omega), numL_nil _⟩
noncomputable def byLoop : Code := .loop (.seq rg22_4 (.seq (.cond (Operand.tmp 22) .skip (Code.exit 0)) (.block 1 (.seq rg22_5 rg22_6))))
theorem by_loop (tab : Tab) (hO : Ops tab) {lo : Nat} (hlo : tab.ng ≤ lo) (h1 : H) (hng : tab.ng ≤ h1.next) (bi : Nat) (hbi : bi < h1.next) (hbi2 : tab.ng ≤ bi) (op : Int) (t u : List UInt8) (num : Nat) (imm size : Int) (hn : num < 18446744073709551616) (hi : -2147483648 ≤ imm ∧ imm < 2147483648) (hs : 0 ≤ size ∧ size ≤ 65536)
    (us : List UInt8) (hu : ∀ c ∈ us, c.toNat ∈ [84, 85, 110, 76, 115, 100, 119, 80, 70] ∧ (c.toNat = 80 → 0 ≤ imm)) (ha : asc us = true) (hul : us.length ≤ 5) (hg1 : h1.get bi = some (.cells 41 6 (insL op t u num imm size))) :
    ∀ (k i : Nat) (tm : Tr Value) (h : H) (v : Value) (l : List UInt8), i + k = us.length → l.length ≤ 1 + 10 * i → tm.get 1 = some (.pointer (some ⟨bi, 0, none⟩)) → tm.get 5 = some v → tm.get 20 = some (.pointer (some ⟨h1.next, 0, none⟩)) →
    h.get h1.next = some (.iter ⟨⟨us⟩⟩ i) → h1.next < h.next → Outb lo h1 h v l → Kept h1 h →
    ∃ tm' h' v', exR (EV tab) byLoop ⟨false, 30, tm, h⟩ = some (.exit 0, ⟨false, 30, tm', h'⟩) ∧ tm'.get 5 = some v' ∧ Outb lo h1 h' v' (l ++ opsL (us.drop i) t u num imm size) ∧ Kept h1 h' := by
  intro k
  have hb17 : ¬ h1.next < (EV tab).ng := by rw [ng_eq]; omega
  induction k with
  | zero =>
    intro i tm h v l hik hl t1 t5 t20 hit hlt ho hk
    have e := next_done (EV tab) h h1.next i us hb17 hit (by omega)
    generalize he : exR (EV tab) byLoop ⟨false, 30, tm, h⟩ = r
    rw [byLoop, exR_loop] at he
    simp only [sS, ofArgs, Int.reduceLT, Int.reduceLE, Int.reduceToNat, Int.reduceEq, readD, Nat.reduceLT, Nat.reduceEqDiff, Nat.reduceAdd, ↓reduceIte, binD, binInt, intBin, unD, convD, oLen, denseD, oFunc, oAppend, Nat.reduceMul, Nat.reduceLeDiff, fF22, tTGa, tTGb, sN, subD, loadD, isAggD, Obj.sub, Obj.get?, storeD, Obj.row, Obj.len, putL, Obj.put, fieldAddrD, indexAddrD, fieldD, indexD, placeOf, fillD, Nat.reduceSub, Nat.reduceLT, Nat.reduceBEq, Nat.reduceMod, Nat.reduceDiv, reduceCtorEq, oNext, t20, e] at he
    subst he
    refine ⟨_, h, v, rfl, by simp only [Tr.get_set, Nat.reduceEqDiff, ↓reduceIte, t5], ?_, hk⟩
    rw [List.drop_eq_nil_of_le (by omega)]
    simpa [opsL] using ho
  | succ k ih =>
    intro i tm h v l hik hl t1 t5 t20 hit hlt ho hk
    have hiu : i < us.length := by omega
    have e := next_more (EV tab) h h1.next i us ha hb17 hit hiu
    have hd : us.drop i = us[i] :: us.drop (i + 1) := (List.getElem_cons_drop hiu).symm
    obtain ⟨hc, hp⟩ := hu us[i] (List.getElem_mem hiu)
    have hk2 : Kept h1 (h.put h1.next (.iter ⟨⟨us⟩⟩ (i + 1))) := hk.put _ (Nat.le_refl _)
    have ho2 : Outb lo h1 (h.put h1.next (.iter ⟨⟨us⟩⟩ (i + 1))) v l := by
      rcases ho with r | ⟨b, e, b1, b2, g, hl1⟩
      · rcases r with r | ⟨b, r1, r2, r3, r4, r5⟩
        · exact .inl (.inl r)
        · refine .inl (.inr ⟨b, r1, r2, r3, ?_, r5⟩)
          rw [H.get_put, if_neg]
          · exact r4
          · intro hbe
            rw [← hbe, hit] at r4; cases r4
      · exact .inr ⟨b, e, b1, b2, by rw [H.get_put, if_neg (by omega)]; exact g, hl1⟩
    have hg1' : (h.put h1.next (.iter ⟨⟨us⟩⟩ (i + 1))).get bi = some (.cells 41 6 (insL op t u num imm size)) := by rw [hk2.get _ hbi]; exact hg1
    have hit2 : (h.put h1.next (.iter ⟨⟨us⟩⟩ (i + 1))).get h1.next = some (.iter ⟨⟨us⟩⟩ (i + 1)) := by rw [H.get_put, if_pos rfl]
    obtain ⟨v2, h2, e2, hb2, kk2⟩ := operand_run tab hO (h.put h1.next (.iter ⟨⟨us⟩⟩ (i + 1))) (by rw [H.next_put]; omega) op t u num imm size hn hi hs us[i].toNat hc hp
    have hlen := opB_len us[i].toNat t u num imm size hn hi hs
    obtain ⟨v3, h3, e3, r3, k3, k4, hit3⟩ := out_app tab hlo hng (ho2.kept kk2 (by rw [H.next_put]; omega)) (hk2.trans kk2) (by omega) hb2 (by rw [H.next_put]; omega) hlen.2 (by omega)
      (bit := h1.next) (us := ⟨⟨us⟩⟩) (i := i + 1) (by have := kk2.le; rw [H.next_put] at this; omega) (by rw [kk2.get _ (by rw [H.next_put]; exact hlt)]; exact hit2)
    have n1 : ¬ bi < tab.ng := by omega
    have e2' := e2
    simp only [insV, insL] at e2' hg1'
    obtain ⟨tm1, x1, a1, a5, a20⟩ : ∃ tm1, exR (EV tab) byLoop ⟨false, 30, tm, h⟩ = exR (EV tab) byLoop ⟨false, 30, tm1, h3⟩ ∧ tm1.get 1 = some (.pointer (some ⟨bi, 0, none⟩)) ∧ tm1.get 5 = some v3 ∧ tm1.get 20 = some (.pointer (some ⟨h1.next, 0, none⟩)) := by
      generalize he : exR (EV tab) byLoop ⟨false, 30, tm, h⟩ = r
      rw [byLoop, exR_loop] at he
      simp only [sS, ofArgs, Int.reduceLT, Int.reduceLE, Int.reduceToNat, Int.reduceEq, readD, Nat.reduceLT, Nat.reduceEqDiff, Nat.reduceAdd, ↓reduceIte, binD, binInt, intBin, unD, convD, oLen, denseD, oFunc, oAppend, Nat.reduceMul, Nat.reduceLeDiff, fF22, tTGa, tTGb, sN, subD, loadD, isAggD, Obj.sub, Obj.get?, storeD, Obj.row, Obj.len, putL, Obj.put, fieldAddrD, indexAddrD, fieldD, indexD, placeOf, fillD, Nat.reduceSub, Nat.reduceLT, Nat.reduceBEq, Nat.reduceMod, Nat.reduceDiv, reduceCtorEq, ng_eq, tabL_ng, oNext, t1, t5, t20, e, n1, hg1', e2', e3] at he
      subst he
      refine ⟨_, rfl, ?_, ?_, ?_⟩ <;> simp only [Tr.get_set, Nat.reduceEqDiff, ↓reduceIte, t1, t20]
    obtain ⟨tm', h', v', y1, y2, y3, y4⟩ := ih (i + 1) tm1 h3 v3 (l ++ opB us[i].toNat t u num imm size) (by omega) (by rw [List.length_append]; omega) a1 a5 a20 hit3 (by have := kk2.le; rw [H.next_put] at this; omega) (.inl r3) k3
    refine ⟨tm', h', v', by rw [x1]; exact y1, y2, ?_, y4⟩
    rw [hd]
    rw [List.append_assoc] at y3
    exact y3
/-! ### bytes, joined -/
def bytesL (op : Nat) (us : List UInt8) (t u : List UInt8) (num : Nat) (imm size : Int) : List UInt8 := UInt8.ofNat op :: opsL us t u num imm size
theorem kindT_uses : kindT.all (fun r => decide (r.uses.length ≤ 5) && r.uses.all (fun c => [84, 85, 110, 76, 115, 100, 119, 80, 70].contains c.toNat)) = true := by decide
theorem kindT_lt {k : Nat} {r : KindR} (hk : kindT[k]? = some r) : k < 29 := by
  have := (List.getElem?_eq_some_iff.1 hk).1
  have h2 : kindT.length = 29 := rfl
  omega
theorem opb (k : Nat) (h : k < 29) : IntKind.u8.wrap (k : Int) = (((UInt8.ofNat k).toNat : Nat) : Int) := low6 k (by omega)
structure ByX (tab : Tab) : Prop where
  ops : Ops tab
  x0 : ∀ l, callExt (EV tab) 22 l = none
  x1 : ∀ l, callExt (EV tab) 27 l = none
  x2 : ∀ l, callExt (EV tab) 44 l = none
  x3 : ∀ l, callExt (EV tab) 69 l = none
theorem bytes_run (tab : Tab) (hB : ByX tab) (h : H) (hng : tab.ng ≤ h.next) (k : Nat) (r : KindR) (hk : kindT[k]? = some r) (t u : List UInt8) (num : Nat) (imm size : Int) (hn : num < 18446744073709551616) (hi : -2147483648 ≤ imm ∧ imm < 2147483648) (hs : 0 ≤ size ∧ size ≤ 65536)
    (hp : ∀ c ∈ r.uses, c.toNat = 80 → 0 ≤ imm) :
    ∃ v' h', callR (EV tab) 22 [insV k t u num imm size] h = some (v', h') ∧ Bytes h h' v' (bytesL k r.uses t u num imm size) ∧ Kept h h' := by
  obtain ⟨hO, x0, x1, x2, x3⟩ := hB
  have hu := List.all_eq_true.1 kindT_uses r (List.mem_of_getElem? hk)
  simp only [Bool.and_eq_true, decide_eq_true_eq, List.all_eq_true] at hu
  have ha : asc r.uses = true := List.all_eq_true.1 kindT_asc r (List.mem_of_getElem? hk)
  have hlt := kindT_lt hk
  obtain ⟨h', e, kp, hn', -⟩ := kindOf_in tab x1 x2 x3 (h.push (.cells 41 6 (insL k t u num imm size))) (by rw [H.next_push]; omega) k r hk
  rw [H.next_push] at hn' e
  have g1 : h'.get h.next = some (.cells 41 6 (insL k t u num imm size)) := by rw [kp.get _ (by rw [H.next_push]; omega)]; exact H.get_push_self _ _
  have nn : ¬ h.next < tab.ng := by omega
  have hn1 : ¬ h'.next < tab.ng := by omega
  have hn2 : ¬ h'.next = h.next := by omega
  have hn3 : ¬ h'.next + 1 = h'.next := by omega
  have hn4 : ¬ h'.next + 1 = h.next := by omega
  have hn5 : ¬ h.next = h'.next := by omega
  have ho := rightV_one (h.next + 1 + 1) r.right
  have key : ∀ tm h1, (tab.ng ≤ h1.next ∧ h.next < h1.next ∧ Kept h h1 ∧ h1.get h.next = some (.cells 41 6 (insL k t u num imm size)) ∧ h.next < h'.next + 1 ∧ h'.next + 1 < h1.next ∧ h1.get (h'.next + 1) = some (.cells 5 1 (bs [UInt8.ofNat k])) ∧
      tm.get 1 = some (.pointer (some ⟨h.next, 0, none⟩)) ∧ tm.get 5 = some (.slice (some ⟨h'.next + 1, 0, none⟩) 1 3) ∧ tm.get 20 = some (.pointer (some ⟨h1.next, 0, none⟩))) →
      ∃ x s', exR (EV tab) byLoop ⟨false, 30, tm, h1.push (.iter ⟨⟨r.uses⟩⟩ 0)⟩ = some (x, s') ∧ (x = .exit 0 ∧ ∃ tm' h2 v', s' = ⟨false, 30, tm', h2⟩ ∧ tm'.get 5 = some v' ∧ Bytes h h2 v' (bytesL k r.uses t u num imm size) ∧ Kept h h2) := fun tm h1 p => by
    obtain ⟨p1, p2, p3, p4, p5, p6, p7, p8, p9, p10⟩ := p
    obtain ⟨tm', h2, v', y1, y2, y3, y4⟩ := by_loop tab hO hng h1 p1 h.next p2 hng k t u num imm size hn hi hs r.uses (fun c hc => ⟨by have := hu.2 c hc; simpa using this, hp c hc⟩) ha hu.1 p4
      r.uses.length 0 tm (h1.push (.iter ⟨⟨r.uses⟩⟩ 0)) _ [UInt8.ofNat k] (by omega) (by simp) p8 p9 p10 (H.get_push_self _ _) (Nat.lt_succ_self _) (.inr ⟨_, rfl, by omega, p6, by rw [H.get_push_lt _ _ p6]; exact p7, rfl⟩) ((Kept.refl _).push _)
    refine ⟨_, _, y1, rfl, tm', h2, v', rfl, y2, ?_, p3.trans y4⟩
    rw [List.drop_zero] at y3
    have y3' : Outb h.next h1 h2 v' (bytesL k r.uses t u num imm size) := y3
    rcases y3' with y | ⟨b, z1, z2, z3, z4, z5⟩
    · exact (row_bytes rfl y (by simp [bytesL])).weak (by omega)
    · exact ⟨b, 3, by rw [z1, z5], z2, by have := y4.le; omega, z4⟩
  have key2 : ∀ tm hh, (∃ h1, hh = h1.push (.iter ⟨⟨r.uses⟩⟩ 0) ∧ (tab.ng ≤ h1.next ∧ h.next < h1.next ∧ Kept h h1 ∧ h1.get h.next = some (.cells 41 6 (insL k t u num imm size)) ∧ h.next < h'.next + 1 ∧ h'.next + 1 < h1.next ∧ h1.get (h'.next + 1) = some (.cells 5 1 (bs [UInt8.ofNat k])) ∧
      tm.get 1 = some (.pointer (some ⟨h.next, 0, none⟩)) ∧ tm.get 5 = some (.slice (some ⟨h'.next + 1, 0, none⟩) 1 3) ∧ tm.get 20 = some (.pointer (some ⟨h1.next, 0, none⟩)))) → ∃ x s', exR (EV tab) byLoop ⟨false, 30, tm, hh⟩ = some (x, s') ∧ (x = .exit 0 ∧ ∃ tm' h2 v', s' = ⟨false, 30, tm', h2⟩ ∧ tm'.get 5 = some v' ∧ Bytes h h2 v' (bytesL k r.uses t u num imm size) ∧ Kept h h2) := fun tm hh ⟨h1, q, p⟩ => by subst q; exact key tm h1 p
  generalize he : callR _ _ _ _ = x
  rw [enter22 _ _ _ (x0 _) rfl] at he
  simp only [insL] at e g1
  simp only [kindL] at e
  simp only [sS, ofArgs, Int.reduceLT, Int.reduceLE, Int.reduceToNat, Int.reduceEq, readD, Nat.reduceLT, Nat.reduceEqDiff, Nat.reduceAdd, ↓reduceIte, binD, binInt, intBin, unD, convD, oLen, denseD, oFunc, oAppend, Nat.reduceMul, Nat.reduceLeDiff, b22, p22_0, r22_0, p22_1, r22_1, p22_2, r22_2, p22_3, r22_3,
    tTGa, tTGb, sN, subD, loadD, isAggD, Obj.sub, Obj.get?, storeD, Obj.row, Obj.len, putL, Obj.put, fieldAddrD, indexAddrD, fieldD, indexD, placeOf, fillD, Nat.reduceSub, Nat.reduceLT, Nat.reduceBEq, Nat.reduceMod, Nat.reduceDiv, reduceCtorEq, ng_eq, tabL_ng, oRange, e, g1, nn, hn1, hn2, hn3, ho, insV, insL, opb k hlt] at he
  obtain ⟨x1, s1, ⟨rfl, tm', h2, v', rfl, y2, y3, y4⟩, he⟩ := use_run key2 (fun o => finish (EV tab) [ResultVar.tmp 2] (andThen (unblock 0 o) (exR (EV tab) (.seq rg22_7 .ret)))) he ⟨_, rfl, by
    have hkk : Kept h h' := ((Kept.refl h).push _).trans kp
    refine ⟨?_, ?_, ?_, ?_, ?_, ?_, ?_, ?_, ?_, ?_⟩
    · simp only [H.next_push, H.next_put]; omega
    · simp only [H.next_push, H.next_put]; omega
    · exact ((hkk.push _).put _ (by omega)).push _
    · simp only [H.get_push, H.get_put, H.next_push, H.next_put, hn2, hn4, hn5, if_false, g1, insL]
      try rfl
    · omega
    · simp only [H.next_push, H.next_put]; omega
    · simp only [H.get_push, H.next_push, H.next_put, if_true]; rfl
    all_goals simp only [Tr.get_set, Nat.reduceEqDiff, ↓reduceIte, H.next_push, H.next_put]⟩
  simp only [sS, ofArgs, Int.reduceLT, Int.reduceLE, Int.reduceToNat, Int.reduceEq, readD, Nat.reduceLT, Nat.reduceEqDiff, Nat.reduceAdd, ↓reduceIte, binD, binInt, intBin, unD, convD, oLen, denseD, oFunc, oAppend, Nat.reduceMul, Nat.reduceLeDiff, fF22, tTGa, tTGb, y2] at he
  subst he
  exact ⟨v', h2, rfl, y3, y4⟩
/-! ### What Check grants; Size, Name, Effect -/
theorem kindT_near : kindT.all (fun r => (!hasB r.uses [115, 100, 80] || (match r.right with | .near => true | .entered => true | _ => false)) && (!hasB r.uses [70] || (match r.right with | .entered => true | _ => false)) &&
    (!r.uses.any (fun c => c.toNat == 80) || (match r.right with | .entered => true | _ => false))) = true := by decide
theorem check_ok {op : Int} {t u : List UInt8} {num imm size : Int} (h : checkI op t u num imm size = 0) (hn : num < 18446744073709551616) :
    ∃ (k : Nat) (r : KindR), op = k ∧ kindT[k]? = some r ∧ kindAt op = some r ∧ wrongB t (hasB r.uses [84]) = false ∧ wrongB u (hasB r.uses [85]) = false ∧ spareB r.uses num imm size = false ∧ rightB num imm size r.right = true ∧ existsB op t u num = true ∧
      (-2147483648 ≤ imm ∧ imm < 2147483648) ∧ (0 ≤ size ∧ size ≤ 65536) ∧ (∀ c ∈ r.uses, c.toNat = 80 → 0 ≤ imm) := by
  rcases kindAt_cases op with ⟨hk, _⟩ | ⟨k, rfl, r, hk, hk2⟩
  · unfold checkI at h; rw [hk] at h; cases h
  · unfold checkI at h
    rw [hk2] at h
    simp only at h
    rw [lastI_eq] at h
    have w : (wrongB t (hasB r.uses [84]) || wrongB u (hasB r.uses [85])) = false := by
      cases q : (wrongB t (hasB r.uses [84]) || wrongB u (hasB r.uses [85])) with
      | false => rfl
      | true => rw [q] at h; cases h
    rw [w] at h
    simp only [Bool.false_eq_true, if_false] at h
    have s : spareB r.uses num imm size = false := by
      cases q : spareB r.uses num imm size with
      | false => rfl
      | true => rw [q] at h; cases h
    rw [s] at h
    simp only [Bool.false_eq_true, if_false] at h
    have rr : rightB num imm size r.right = true := by
      cases q : rightB num imm size r.right with
      | true => rfl
      | false => rw [q] at h; cases h
    rw [rr] at h
    simp only [Bool.not_true, Bool.false_eq_true, if_false] at h
    have ex : existsB k t u num = true := by
      cases q : existsB k t u num with
      | true => rfl
      | false => rw [q] at h; cases h
    rw [Bool.or_eq_false_iff] at w
    have hq := List.all_eq_true.1 kindT_near r (List.mem_of_getElem? hk)
    simp only [Bool.and_eq_true, Bool.or_eq_true, Bool.not_eq_true'] at hq
    obtain ⟨⟨q1, q2⟩, q3⟩ := hq
    have s' := s
    unfold spareB at s'
    simp only [Bool.or_eq_false_iff, Bool.and_eq_false_iff, Bool.not_eq_false', bne_eq_false_iff_eq] at s'
    obtain ⟨⟨s1, s2⟩, s3⟩ := s'
    have hen : r.right = .entered → (0 ≤ imm ∧ imm ≤ 9999 ∧ 0 ≤ size ∧ size ≤ 65536) := fun he => by
      rw [he] at rr
      simp only [rightB, enterB, Bool.and_eq_true, decide_eq_true_eq] at rr
      omega
    have hne : r.right = .near → (-2147483648 ≤ imm ∧ imm < 2147483648) := fun he => by
      rw [he] at rr
      simp only [rightB, nearB, Bool.and_eq_true, decide_eq_true_eq] at rr
      exact rr
    refine ⟨k, r, rfl, hk, hk2, w.1, w.2, s, rr, ex, ?_, ?_, ?_⟩
    · rcases s2 with s2 | s2
      · omega
      · rw [s2] at q1
        rcases q1 with q1 | q1
        · cases q1
        · cases hr : r.right with
          | near => exact hne hr
          | entered => have := hen hr; omega
          | free => rw [hr] at q1; cases q1
          | aligned => rw [hr] at q1; cases q1
          | below _ _ => rw [hr] at q1; cases q1
    · rcases s3 with s3 | s3
      · omega
      · rw [s3] at q2
        rcases q2 with q2 | q2
        · cases q2
        · cases hr : r.right with
          | entered => have := hen hr; omega
          | near => rw [hr] at q2; cases q2
          | free => rw [hr] at q2; cases q2
          | aligned => rw [hr] at q2; cases q2
          | below _ _ => rw [hr] at q2; cases q2
    · intro c hc h80
      rcases q3 with q3 | q3
      · rw [List.any_eq_false] at q3
        exact absurd (by simpa using h80) (q3 c hc)
      · cases hr : r.right with
        | entered => exact (hen hr).1
        | near => rw [hr] at q3; cases q3
        | free => rw [hr] at q3; cases q3
        | aligned => rw [hr] at q3; cases q3
        | below _ _ => rw [hr] at q3; cases q3

abbrev CheckP (tab : Tab) (f : Nat) : Prop := ∀ op t u num imm size h, 0 ≤ num → callR (EV tab) f [insV op t u num imm size] h = some (.int .i64 (checkI op t u num imm size), h)
def usesAt (op : Int) : List UInt8 := match kindAt op with | some r => r.uses | none => []
def sizeI (op : Int) (t u : List UInt8) (num imm size : Int) : Int × Int :=
  if checkI op t u num imm size = 0 then (((bytesL op.toNat (usesAt op) t u num.toNat imm size).length : Nat), 0) else (0, checkI op t u num imm size)
def sizeV : Spec
  | [.agg ⟨[.int .i64 op, .string ⟨⟨t⟩⟩, .string ⟨⟨u⟩⟩, .int .u64 num, .int .i64 imm, .int .i64 size]⟩] =>
    if 0 ≤ num ∧ num < 18446744073709551616 then some (.tuple ⟨[.int .i64 (sizeI op t u num imm size).1, .int .i64 (sizeI op t u num imm size).2]⟩) else none
  | _ => none
def nameI (op : Int) : List UInt8 × Int := match kindAt op with | some r => (r.name, 0) | none => ([], 11)
def nameV : Spec
  | [.int .i64 op] => some (.tuple ⟨[.string ⟨⟨(nameI op).1⟩⟩, .int .i64 (nameI op).2]⟩)
  | _ => none
/-! ### Lists of instructions -/
structure Ins where
  op : Int
  t : List UInt8
  u : List UInt8
  num : Nat
  imm : Int
  size : Int
def insC (x : Ins) : List Value := insL x.op x.t x.u x.num x.imm x.size
def insZ : Ins := ⟨0, [], [], 0, 0, 0⟩
def cellsI (l : List Ins) : List Value := l.flatMap insC
theorem insC_len (x : Ins) : (insC x).length = 6 := rfl
theorem insC_one (x : Ins) : (insC x).all isOne = true := rfl
theorem cellsI_len (l : List Ins) : (cellsI l).length = l.length * 6 := by
  induction l with
  | nil => rfl
  | cons x l ih => rw [cellsI, List.flatMap_cons, List.length_append]; show 6 + (cellsI l).length = _; rw [ih, List.length_cons]; omega
theorem cellsI_take (l : List Ins) (i : Nat) (hi : i < l.length) : cellsI (l.take (i + 1)) = cellsI (l.take i) ++ insC l[i] := by
  have h : l.take (i + 1) = l.take i ++ [l[i]] := by rw [List.take_add_one, List.getElem?_eq_getElem hi]; rfl
  rw [h, cellsI, List.flatMap_append]
  simp [cellsI]
theorem cellsI_split (l : List Ins) (i : Nat) (hi : i < l.length) : cellsI l = cellsI (l.take i) ++ (insC l[i] ++ cellsI (l.drop (i + 1))) := by
  have h : l = l.take i ++ l[i] :: l.drop (i + 1) := by rw [List.getElem_cons_drop hi, List.take_append_drop]
  have h2 : cellsI (l.take i ++ l[i] :: l.drop (i + 1)) = cellsI (l.take i) ++ (insC l[i] ++ cellsI (l.drop (i + 1))) := by rw [cellsI, List.flatMap_append, List.flatMap_cons]; rfl
  rw [← h2, ← h]
theorem cellsI_sub (e : Nat) (l : List Ins) (i : Nat) (hi : i < l.length) : Obj.sub (.cells e 6 (cellsI l)) (i * 6) 6 = some (insC l[i]) := by
  refine sub_get (insC l[i]) e 6 (i * 6) (cellsI l) fun j hj => ?_
  have hl : (cellsI (l.take i)).length = i * 6 := by rw [cellsI_len, List.length_take]; congr 1; omega
  rw [cellsI_split l i hi, List.getElem?_append_right (by omega), hl, Nat.add_sub_cancel_left, List.getElem?_append_left hj]
theorem new_ins (tab : Tab) (e : Nat) (h : H) (x : Ins) (b c : Nat) (hb : tab.ng ≤ b) (hg : h.get b = some (.cells e 6 (insC x))) (z : List Value) : newD (EV tab) h z 6 false (.slice (some ⟨b, 0, none⟩) 1 c) = some (insC x, 1) := by
  have hs := sub_all e 6 (insC x)
  rw [insC_len] at hs
  unfold newD
  simp only [Bool.false_eq_true, if_false, lenOfD, srcD, subD, ng_eq, tabL_ng, Nat.not_lt.2 hb, Nat.one_mul, hg, hs]
/-! ### Memory, whatever holds it -/
def cellAt (tab : Tab) (h : H) (b i : Nat) : Option Value := if b < tab.ng then tab.gl b i else (match h.get b with | none => none | some ob => ob.get? i)
/-- Cells that lie in a block that was there, or in one of the run's. -/
structure Mem (tab : Tab) (h : H) (b o : Nat) (l : List Value) : Prop where
  al : b < tab.ng ∨ (b < h.next ∧ (h.get b).isSome = true)
  at_ : ∀ (i : Nat) (v : Value), l[i]? = some v → cellAt tab h b (o + i) = some v
theorem Mem.kept {tab : Tab} {h h' : H} {b o : Nat} {l : List Value} (m : Mem tab h b o l) (k : Kept h h') : Mem tab h' b o l := by
  rcases m.al with q | ⟨q, q2⟩
  · exact ⟨.inl q, fun i v hv => by have := m.at_ i v hv; unfold cellAt at this ⊢; rw [if_pos q] at this ⊢; exact this⟩
  · have e := k.get b q
    exact ⟨.inr ⟨Nat.lt_of_lt_of_le q k.le, by rw [e]; exact q2⟩, fun i v hv => by have := m.at_ i v hv; unfold cellAt at this ⊢; rw [e]; exact this⟩
theorem Mem.lt {tab : Tab} {h : H} {b o : Nat} {l : List Value} (m : Mem tab h b o l) (hng : tab.ng ≤ h.next) : b < h.next := by
  rcases m.al with q | ⟨q, _⟩
  · omega
  · exact q
theorem globSub_of {E : Env} {g : Nat} : ∀ {l : List Value} {o : Nat}, (∀ (i : Nat) (v : Value), l[i]? = some v → E.glob g (o + i) = some v) → globSub E g o l.length = some l
  | [], _, _ => rfl
  | v :: l, o, h => by
    have h0 := h 0 v rfl
    have ih := globSub_of (l := l) (o := o + 1) (g := g) (E := E) fun i w hw => by
      have := h (i + 1) w (by simpa using hw)
      rwa [show o + (i + 1) = o + 1 + i by omega] at this
    rw [Nat.add_zero] at h0
    simp only [List.length_cons, globSub, h0, ih]
theorem objSub_of {ob : Obj} : ∀ {l : List Value} {o : Nat}, (∀ (i : Nat) (v : Value), l[i]? = some v → ob.get? (o + i) = some v) → Obj.sub ob o l.length = some l
  | [], _, _ => rfl
  | v :: l, o, h => by
    have h0 := h 0 v rfl
    have ih := objSub_of (l := l) (o := o + 1) (ob := ob) fun i w hw => by
      have := h (i + 1) w (by simpa using hw)
      rwa [show o + (i + 1) = o + 1 + i by omega] at this
    rw [Nat.add_zero] at h0
    simp only [List.length_cons, Obj.sub, h0, ih]
theorem Mem.all {tab : Tab} {h : H} {b o : Nat} {l : List Value} (m : Mem tab h b o l) : subD (EV tab) h b o l.length = some l := by
  unfold subD
  rw [ng_eq]
  by_cases q : b < tab.ng
  · rw [if_pos q]
    exact globSub_of fun i v hv => by have := m.at_ i v hv; unfold cellAt at this; rw [if_pos q] at this; exact this
  · rw [if_neg q]
    rcases m.al with q' | ⟨_, q2⟩
    · exact absurd q' q
    · obtain ⟨ob, hob⟩ := Option.isSome_iff_exists.1 q2
      rw [hob]
      exact objSub_of fun i v hv => by have := m.at_ i v hv; unfold cellAt at this; rw [if_neg q, hob] at this; exact this
theorem Mem.part {tab : Tab} {h : H} {b o : Nat} {l1 l2 l3 : List Value} {k : Nat} (m : Mem tab h b o (l1 ++ (l2 ++ l3))) (hk : l1.length = k) : Mem tab h b (o + k) l2 :=
  ⟨m.al, fun i v hv => by
    have := m.at_ (k + i) v (by rw [List.getElem?_append_right (by omega), hk, Nat.add_sub_cancel_left, List.getElem?_append_left (List.getElem?_eq_some_iff.1 hv).1]; exact hv)
    rwa [← Nat.add_assoc] at this⟩
theorem mem_cells {tab : Tab} {h : H} {b e z : Nat} {l : List Value} (hb : tab.ng ≤ b) (hl : b < h.next) (hg : h.get b = some (.cells e z l)) : Mem tab h b 0 l :=
  ⟨.inr ⟨hl, by rw [hg]; rfl⟩, fun i v hv => by
    unfold cellAt
    rw [if_neg (Nat.not_lt.2 hb), hg, Nat.zero_add]; exact hv⟩
theorem Mem.ins {tab : Tab} {h : H} {b o : Nat} {l : List Ins} (m : Mem tab h b o (cellsI l)) (i : Nat) (hi : i < l.length) : subD (EV tab) h b (o + i * 6) 6 = some (insC l[i]) := by
  rw [cellsI_split l i hi] at m
  exact (m.part (by rw [cellsI_len, List.length_take]; congr 1; omega)).all
/-- A slice of instructions. -/
def InS (tab : Tab) (h : H) (v : Value) (_e : Nat) (l : List Ins) : Prop := (v = .slice none 0 0 ∧ l = []) ∨ ∃ b o c, v = .slice (some ⟨b, o, none⟩) l.length c ∧ Mem tab h b o (cellsI l)
theorem InS.kept {tab : Tab} {h h' : H} {v : Value} {e : Nat} {l : List Ins} (i : InS tab h v e l) (k : Kept h h') : InS tab h' v e l := by
  rcases i with i | ⟨b, o, c, i1, i2⟩
  · exact .inl i
  · exact .inr ⟨b, o, c, i1, i2.kept k⟩
theorem Row.ins {tab : Tab} {h0 h : H} {v : Value} {e : Nat} {l : List Ins} (r : Row h0 h e 6 v l.length (cellsI l)) (hng : tab.ng ≤ h0.next) : InS tab h v e l := by
  rcases r with ⟨r1, r2, _⟩ | ⟨b, r1, r2, r3, r4, _⟩
  · exact .inl ⟨r1, List.eq_nil_of_length_eq_zero r2⟩
  · exact .inr ⟨b, 0, 0, r1, mem_cells (by omega) r3 r4⟩
/-! ### bowlinelaw26.theirs -/
noncomputable def cvLoopT : Code := .loop (.seq rg7_3 (.seq (.cond (Operand.tmp 9) .skip (Code.exit 0)) (.seq (.block 1 (.seq rg7_4 rg7_5)) rg7_6)))
theorem cv_loopT (tab : Tab) (h0 : H) (hng : tab.ng ≤ h0.next) (b o c : Nat) (l : List Ins) (hm : Mem tab h0 b o (cellsI l)) (hn : l.length ≤ 5000) :
    ∀ (k i : Nat) (tm : Tr Value) (h : H) (v : Value), i + k = l.length → tm.get 3 = some v → tm.get 6 = some (.slice (some ⟨b, o, none⟩) l.length c) → tm.get 7 = some (.int .i64 l.length) → tm.get 8 = some (.int .i64 i) →
    Row h0 h 41 6 v i (cellsI (l.take i)) → Kept h0 h →
    ∃ tm' h' v', exR (EV tab) cvLoopT ⟨false, 18, tm, h⟩ = some (.exit 0, ⟨false, 18, tm', h'⟩) ∧ tm'.get 3 = some v' ∧ Row h0 h' 41 6 v' l.length (cellsI l) ∧ Kept h0 h' := by
  intro k
  induction k with
  | zero =>
    intro i tm h v hk t3 t6 t7 t8 hr hkp
    have hlt : ¬ i < l.length := by omega
    generalize he : exR (EV tab) cvLoopT ⟨false, 18, tm, h⟩ = r
    rw [cvLoopT, exR_loop] at he
    simp only [sS, ofArgs, Int.reduceLT, Int.reduceLE, Int.reduceToNat, Int.reduceEq, readD, Nat.reduceLT, Nat.reduceEqDiff, Nat.reduceAdd, ↓reduceIte, binD, binInt, intBin, unD, convD, oLen, denseD, oFunc, oAppend, Nat.reduceMul, Nat.reduceLeDiff, fF7, tTGa, tTGb, t7, t8, iLss, Int.ofNat_lt, hlt, decide_false] at he
    subst he
    rw [List.take_of_length_le (by omega), show i = l.length by omega] at hr
    exact ⟨_, h, v, rfl, by simp only [Tr.get_set, Nat.reduceEqDiff, ↓reduceIte, t3], hr, hkp⟩
  | succ k ih =>
    intro i tm h v hk t3 t6 t7 t8 hr hkp
    have hlt : i < l.length := by omega
    have hsub := (hm.kept hkp).ins i hlt
    have hnb : ¬ h.next = b := by have := (hm.kept hkp).lt (Nat.le_trans hng hkp.le); omega
    have hhn : ¬ h.next < tab.ng := by have := hkp.le; omega
    have hk2 : Kept h0 ((h.push (.cells 40 6 [.int .i64 0, .string ⟨#[]⟩, .string ⟨#[]⟩, .int .u64 0, .int .i64 0, .int .i64 0])).put h.next (.cells 40 6 (insC l[i]))) := (hkp.push _).put _ hkp.le
    have hr2 : Row h0 ((((h.push (.cells 40 6 [.int .i64 0, .string ⟨#[]⟩, .string ⟨#[]⟩, .int .u64 0, .int .i64 0, .int .i64 0])).put h.next (.cells 40 6 (insC l[i])))).push (.cells 41 6 (insC l[i]))) 41 6 v i (cellsI (l.take i)) := by
      rcases hr with r | ⟨q, r1, r2, r3, r4, r5⟩
      · exact .inl r
      · refine .inr ⟨q, r1, r2, by simp only [H.next_push, H.next_put]; omega, ?_, r5⟩
        rw [H.get_push_lt _ _ (by simp only [H.next_push, H.next_put]; omega), H.get_put, if_neg (by omega), H.get_push_lt _ _ r3]; exact r4
    obtain ⟨v1, h1, e, rr, kk⟩ := append_row (E := EV tab) (t := 29) (ti29 tab) rfl (ti41 tab) rfl (by rw [bt_eq]; show 41 ≠ 86; decide) hng hr2 (hk2.push _)
      (new_ins tab 41 ((((h.push (.cells 40 6 [.int .i64 0, .string ⟨#[]⟩, .string ⟨#[]⟩, .int .u64 0, .int .i64 0, .int .i64 0])).put h.next (.cells 40 6 (insC l[i])))).push (.cells 41 6 (insC l[i]))) l[i] (h.next + 1) 3 (by omega) (by simp only [H.get_push, H.next_put, H.next_push, if_true]) _) (insC_one _) (by decide) (by omega) rfl
    rw [← cellsI_take l i hlt] at rr
    have hs2 : ∀ a b c d e f : Value, Obj.sub (.cells 40 6 [a, b, c, d, e, f]) 0 6 = some [a, b, c, d, e, f] := fun _ _ _ _ _ _ => rfl
    have e' := e
    simp only [insC, insL] at e' hsub
    obtain ⟨tm1, e1, a3, a6, a7, a8⟩ : ∃ tm1, exR (EV tab) cvLoopT ⟨false, 18, tm, h⟩ = exR (EV tab) cvLoopT ⟨false, 18, tm1, h1⟩ ∧ tm1.get 3 = some v1 ∧ tm1.get 6 = some (.slice (some ⟨b, o, none⟩) l.length c) ∧ tm1.get 7 = some (.int .i64 l.length) ∧ tm1.get 8 = some (.int .i64 ((i + 1 : Nat) : Int)) := by
      generalize he : exR (EV tab) cvLoopT ⟨false, 18, tm, h⟩ = r
      rw [cvLoopT, exR_loop] at he
      simp only [sS, ofArgs, Int.reduceLT, Int.reduceLE, Int.reduceToNat, Int.reduceEq, readD, Nat.reduceLT, Nat.reduceEqDiff, Nat.reduceAdd, ↓reduceIte, binD, binInt, intBin, unD, convD, oLen, denseD, oFunc, oAppend, Nat.reduceMul, Nat.reduceLeDiff, fF7, tTGa, tTGb, sN, sO, loadD, isAggD, storeD, Obj.row, Obj.len, putL, Obj.put, fieldAddrD, indexAddrD, fieldD, indexD, placeOf, fillD, Nat.reduceSub, Nat.reduceLT, Nat.reduceBEq, Nat.reduceMod, Nat.reduceDiv, reduceCtorEq, ng_eq, tabL_ng, t3, t6, t7, t8, iLss, Int.ofNat_lt, hlt, decide_true, Int.natCast_nonneg, and_self, Int.toNat_natCast, hnb, hhn, hsub, hs2, e', add1 i (by omega)] at he
      subst he
      refine ⟨_, rfl, ?_, ?_, ?_, ?_⟩ <;> simp only [Tr.get_set, Nat.reduceEqDiff, ↓reduceIte, t6, t7]
    obtain ⟨tm', h', v', x1, x2, x3, x4⟩ := ih (i + 1) tm1 h1 v1 (by omega) a3 a6 a7 a8 rr kk
    exact ⟨tm', h', v', by rw [e1]; exact x1, x2, x3, x4⟩
theorem cv_runT (tab : Tab) (hx : ∀ l, callExt (EV tab) 7 l = none) (h : H) (hng : tab.ng ≤ h.next) (v : Value) (l : List Ins) (hv : InS tab h v 40 l) (hn : l.length ≤ 5000) :
    ∃ v' h', callR (EV tab) 7 [v] h = some (v', h') ∧ Row h h' 41 6 v' l.length (cellsI l) ∧ Kept h h' := by
  rcases hv with ⟨rfl, rfl⟩ | ⟨b, o, c, rfl, hm⟩
  · generalize he : callR _ _ _ _ = r
    rw [enter7 _ _ _ (hx _) rfl] at he
    simp only [sS, ofArgs, Int.reduceLT, Int.reduceLE, Int.reduceToNat, Int.reduceEq, readD, Nat.reduceLT, Nat.reduceEqDiff, Nat.reduceAdd, ↓reduceIte, binD, binInt, intBin, unD, convD, oLen, denseD, oFunc, oAppend, Nat.reduceMul, Nat.reduceLeDiff, fF7, tTGa, tTGb, sN, subD, loadD, isAggD, Obj.sub, Obj.get?, storeD, Obj.row, Obj.len, putL, Obj.put, fieldAddrD, indexAddrD, fieldD, indexD, placeOf, fillD, Nat.reduceSub, Nat.reduceLT, Nat.reduceBEq, Nat.reduceMod, Nat.reduceDiv, reduceCtorEq, exR_loop, ng_eq, tabL_ng, iLss, Int.cast_ofNat_Int, Int.reduceLT, decide_false, Int.lt_irrefl] at he
    subst he
    exact ⟨_, _, rfl, Row.nil _ _ _ _, Kept.refl h⟩
  · have key : ∀ tm h1, (h1 = h ∧ tm.get 3 = some (.slice none 0 0) ∧ tm.get 6 = some (.slice (some ⟨b, o, none⟩) l.length c) ∧ tm.get 7 = some (.int .i64 l.length) ∧ tm.get 8 = some (.int .i64 0)) → ∃ x s', exR (EV tab) cvLoopT ⟨false, 18, tm, h1⟩ = some (x, s') ∧
        (x = .exit 0 ∧ ∃ tm' h' v', s' = ⟨false, 18, tm', h'⟩ ∧ tm'.get 3 = some v' ∧ Row h h' 41 6 v' l.length (cellsI l) ∧ Kept h h') := fun tm h1 p => by
      obtain ⟨rfl, p3, p6, p7, p8⟩ := p
      obtain ⟨tm', h', v', x1, x2, x3, x4⟩ := cv_loopT tab h1 hng b o c l hm hn l.length 0 tm h1 (.slice none 0 0) (by omega) p3 p6 p7 p8 (Row.nil _ _ _ _) (Kept.refl h1)
      exact ⟨_, _, x1, rfl, tm', h', v', rfl, x2, x3, x4⟩
    generalize he : callR _ _ _ _ = r
    rw [enter7 _ _ _ (hx _) rfl] at he
    simp only [sS, ofArgs, Int.reduceLT, Int.reduceLE, Int.reduceToNat, Int.reduceEq, readD, Nat.reduceLT, Nat.reduceEqDiff, Nat.reduceAdd, ↓reduceIte, binD, binInt, intBin, unD, convD, oLen, denseD, oFunc, oAppend, Nat.reduceMul, Nat.reduceLeDiff, b7, p7_0, r7_0, p7_1, r7_1, p7_2, r7_2, tTGa, tTGb] at he
    obtain ⟨x1, s1, ⟨rfl, tm', h', v', rfl, x2, x3, x4⟩, he⟩ := use_run key (fun o => finish (EV tab) [ResultVar.tmp 2] (andThen (unblock 0 o) (exR (EV tab) (.seq rg7_7 .ret)))) he (by
      refine ⟨rfl, ?_, ?_, ?_, ?_⟩ <;> simp only [Tr.get_set, Nat.reduceEqDiff, ↓reduceIte])
    simp only [sS, ofArgs, Int.reduceLT, Int.reduceLE, Int.reduceToNat, Int.reduceEq, readD, Nat.reduceLT, Nat.reduceEqDiff, Nat.reduceAdd, ↓reduceIte, binD, binInt, intBin, unD, convD, oLen, denseD, oFunc, oAppend, Nat.reduceMul, Nat.reduceLeDiff, fF7, tTGa, tTGb, x2] at he
    subst he
    exact ⟨v', h', rfl, x3, x4⟩

/-! ### bowlinelaw26.told -/
noncomputable def cvLoopD : Code := .loop (.seq rg10_3 (.seq (.cond (Operand.tmp 9) .skip (Code.exit 0)) (.seq (.block 1 (.seq rg10_4 rg10_5)) rg10_6)))
theorem cv_loopD (tab : Tab) (h0 : H) (hng : tab.ng ≤ h0.next) (b o c : Nat) (l : List Ins) (hm : Mem tab h0 b o (cellsI l)) (hn : l.length ≤ 5000) :
    ∀ (k i : Nat) (tm : Tr Value) (h : H) (v : Value), i + k = l.length → tm.get 3 = some v → tm.get 6 = some (.slice (some ⟨b, o, none⟩) l.length c) → tm.get 7 = some (.int .i64 l.length) → tm.get 8 = some (.int .i64 i) →
    Row h0 h 40 6 v i (cellsI (l.take i)) → Kept h0 h →
    ∃ tm' h' v', exR (EV tab) cvLoopD ⟨false, 18, tm, h⟩ = some (.exit 0, ⟨false, 18, tm', h'⟩) ∧ tm'.get 3 = some v' ∧ Row h0 h' 40 6 v' l.length (cellsI l) ∧ Kept h0 h' := by
  intro k
  induction k with
  | zero =>
    intro i tm h v hk t3 t6 t7 t8 hr hkp
    have hlt : ¬ i < l.length := by omega
    generalize he : exR (EV tab) cvLoopD ⟨false, 18, tm, h⟩ = r
    rw [cvLoopD, exR_loop] at he
    simp only [sS, ofArgs, Int.reduceLT, Int.reduceLE, Int.reduceToNat, Int.reduceEq, readD, Nat.reduceLT, Nat.reduceEqDiff, Nat.reduceAdd, ↓reduceIte, binD, binInt, intBin, unD, convD, oLen, denseD, oFunc, oAppend, Nat.reduceMul, Nat.reduceLeDiff, fF10, tTGa, tTGb, t7, t8, iLss, Int.ofNat_lt, hlt, decide_false] at he
    subst he
    rw [List.take_of_length_le (by omega), show i = l.length by omega] at hr
    exact ⟨_, h, v, rfl, by simp only [Tr.get_set, Nat.reduceEqDiff, ↓reduceIte, t3], hr, hkp⟩
  | succ k ih =>
    intro i tm h v hk t3 t6 t7 t8 hr hkp
    have hlt : i < l.length := by omega
    have hsub := (hm.kept hkp).ins i hlt
    have hnb : ¬ h.next = b := by have := (hm.kept hkp).lt (Nat.le_trans hng hkp.le); omega
    have hhn : ¬ h.next < tab.ng := by have := hkp.le; omega
    have hk2 : Kept h0 ((h.push (.cells 41 6 [.int .i64 0, .string ⟨#[]⟩, .string ⟨#[]⟩, .int .u64 0, .int .i64 0, .int .i64 0])).put h.next (.cells 41 6 (insC l[i]))) := (hkp.push _).put _ hkp.le
    have hr2 : Row h0 ((((h.push (.cells 41 6 [.int .i64 0, .string ⟨#[]⟩, .string ⟨#[]⟩, .int .u64 0, .int .i64 0, .int .i64 0])).put h.next (.cells 41 6 (insC l[i])))).push (.cells 40 6 (insC l[i]))) 40 6 v i (cellsI (l.take i)) := by
      rcases hr with r | ⟨q, r1, r2, r3, r4, r5⟩
      · exact .inl r
      · refine .inr ⟨q, r1, r2, by simp only [H.next_push, H.next_put]; omega, ?_, r5⟩
        rw [H.get_push_lt _ _ (by simp only [H.next_push, H.next_put]; omega), H.get_put, if_neg (by omega), H.get_push_lt _ _ r3]; exact r4
    obtain ⟨v1, h1, e, rr, kk⟩ := append_row (E := EV tab) (t := 22) (ti22 tab) rfl (ti40 tab) rfl (by rw [bt_eq]; show 40 ≠ 86; decide) hng hr2 (hk2.push _)
      (new_ins tab 40 ((((h.push (.cells 41 6 [.int .i64 0, .string ⟨#[]⟩, .string ⟨#[]⟩, .int .u64 0, .int .i64 0, .int .i64 0])).put h.next (.cells 41 6 (insC l[i])))).push (.cells 40 6 (insC l[i]))) l[i] (h.next + 1) 3 (by omega) (by simp only [H.get_push, H.next_put, H.next_push, if_true]) _) (insC_one _) (by decide) (by omega) rfl
    rw [← cellsI_take l i hlt] at rr
    have hs2 : ∀ a b c d e f : Value, Obj.sub (.cells 41 6 [a, b, c, d, e, f]) 0 6 = some [a, b, c, d, e, f] := fun _ _ _ _ _ _ => rfl
    have e' := e
    simp only [insC, insL] at e' hsub
    obtain ⟨tm1, e1, a3, a6, a7, a8⟩ : ∃ tm1, exR (EV tab) cvLoopD ⟨false, 18, tm, h⟩ = exR (EV tab) cvLoopD ⟨false, 18, tm1, h1⟩ ∧ tm1.get 3 = some v1 ∧ tm1.get 6 = some (.slice (some ⟨b, o, none⟩) l.length c) ∧ tm1.get 7 = some (.int .i64 l.length) ∧ tm1.get 8 = some (.int .i64 ((i + 1 : Nat) : Int)) := by
      generalize he : exR (EV tab) cvLoopD ⟨false, 18, tm, h⟩ = r
      rw [cvLoopD, exR_loop] at he
      simp only [sS, ofArgs, Int.reduceLT, Int.reduceLE, Int.reduceToNat, Int.reduceEq, readD, Nat.reduceLT, Nat.reduceEqDiff, Nat.reduceAdd, ↓reduceIte, binD, binInt, intBin, unD, convD, oLen, denseD, oFunc, oAppend, Nat.reduceMul, Nat.reduceLeDiff, fF10, tTGa, tTGb, sN, sO, loadD, isAggD, storeD, Obj.row, Obj.len, putL, Obj.put, fieldAddrD, indexAddrD, fieldD, indexD, placeOf, fillD, Nat.reduceSub, Nat.reduceLT, Nat.reduceBEq, Nat.reduceMod, Nat.reduceDiv, reduceCtorEq, ng_eq, tabL_ng, t3, t6, t7, t8, iLss, Int.ofNat_lt, hlt, decide_true, Int.natCast_nonneg, and_self, Int.toNat_natCast, hnb, hhn, hsub, hs2, e', add1 i (by omega)] at he
      subst he
      refine ⟨_, rfl, ?_, ?_, ?_, ?_⟩ <;> simp only [Tr.get_set, Nat.reduceEqDiff, ↓reduceIte, t6, t7]
    obtain ⟨tm', h', v', x1, x2, x3, x4⟩ := ih (i + 1) tm1 h1 v1 (by omega) a3 a6 a7 a8 rr kk
    exact ⟨tm', h', v', by rw [e1]; exact x1, x2, x3, x4⟩
theorem cv_runD (tab : Tab) (hx : ∀ l, callExt (EV tab) 10 l = none) (h : H) (hng : tab.ng ≤ h.next) (v : Value) (l : List Ins) (hv : InS tab h v 41 l) (hn : l.length ≤ 5000) :
    ∃ v' h', callR (EV tab) 10 [v] h = some (v', h') ∧ Row h h' 40 6 v' l.length (cellsI l) ∧ Kept h h' := by
  rcases hv with ⟨rfl, rfl⟩ | ⟨b, o, c, rfl, hm⟩
  · generalize he : callR _ _ _ _ = r
    rw [enter10 _ _ _ (hx _) rfl] at he
    simp only [sS, ofArgs, Int.reduceLT, Int.reduceLE, Int.reduceToNat, Int.reduceEq, readD, Nat.reduceLT, Nat.reduceEqDiff, Nat.reduceAdd, ↓reduceIte, binD, binInt, intBin, unD, convD, oLen, denseD, oFunc, oAppend, Nat.reduceMul, Nat.reduceLeDiff, fF10, tTGa, tTGb, sN, subD, loadD, isAggD, Obj.sub, Obj.get?, storeD, Obj.row, Obj.len, putL, Obj.put, fieldAddrD, indexAddrD, fieldD, indexD, placeOf, fillD, Nat.reduceSub, Nat.reduceLT, Nat.reduceBEq, Nat.reduceMod, Nat.reduceDiv, reduceCtorEq, exR_loop, ng_eq, tabL_ng, iLss, Int.cast_ofNat_Int, Int.reduceLT, decide_false, Int.lt_irrefl] at he
    subst he
    exact ⟨_, _, rfl, Row.nil _ _ _ _, Kept.refl h⟩
  · have key : ∀ tm h1, (h1 = h ∧ tm.get 3 = some (.slice none 0 0) ∧ tm.get 6 = some (.slice (some ⟨b, o, none⟩) l.length c) ∧ tm.get 7 = some (.int .i64 l.length) ∧ tm.get 8 = some (.int .i64 0)) → ∃ x s', exR (EV tab) cvLoopD ⟨false, 18, tm, h1⟩ = some (x, s') ∧
        (x = .exit 0 ∧ ∃ tm' h' v', s' = ⟨false, 18, tm', h'⟩ ∧ tm'.get 3 = some v' ∧ Row h h' 40 6 v' l.length (cellsI l) ∧ Kept h h') := fun tm h1 p => by
      obtain ⟨rfl, p3, p6, p7, p8⟩ := p
      obtain ⟨tm', h', v', x1, x2, x3, x4⟩ := cv_loopD tab h1 hng b o c l hm hn l.length 0 tm h1 (.slice none 0 0) (by omega) p3 p6 p7 p8 (Row.nil _ _ _ _) (Kept.refl h1)
      exact ⟨_, _, x1, rfl, tm', h', v', rfl, x2, x3, x4⟩
    generalize he : callR _ _ _ _ = r
    rw [enter10 _ _ _ (hx _) rfl] at he
    simp only [sS, ofArgs, Int.reduceLT, Int.reduceLE, Int.reduceToNat, Int.reduceEq, readD, Nat.reduceLT, Nat.reduceEqDiff, Nat.reduceAdd, ↓reduceIte, binD, binInt, intBin, unD, convD, oLen, denseD, oFunc, oAppend, Nat.reduceMul, Nat.reduceLeDiff, b10, p10_0, r10_0, p10_1, r10_1, p10_2, r10_2, tTGa, tTGb] at he
    obtain ⟨x1, s1, ⟨rfl, tm', h', v', rfl, x2, x3, x4⟩, he⟩ := use_run key (fun o => finish (EV tab) [ResultVar.tmp 2] (andThen (unblock 0 o) (exR (EV tab) (.seq rg10_7 .ret)))) he (by
      refine ⟨rfl, ?_, ?_, ?_, ?_⟩ <;> simp only [Tr.get_set, Nat.reduceEqDiff, ↓reduceIte])
    simp only [sS, ofArgs, Int.reduceLT, Int.reduceLE, Int.reduceToNat, Int.reduceEq, readD, Nat.reduceLT, Nat.reduceEqDiff, Nat.reduceAdd, ↓reduceIte, binD, binInt, intBin, unD, convD, oLen, denseD, oFunc, oAppend, Nat.reduceMul, Nat.reduceLeDiff, fF10, tTGa, tTGb, x2] at he
    subst he
    exact ⟨v', h', rfl, x3, x4⟩

/-! ### checkAll, checkList -/
def chkI (x : Ins) : Int := checkI x.op x.t x.u x.num x.imm x.size
def errs (l : List Ins) : List Value := (l.map chkI).map (.int .i64)
theorem errs_take (l : List Ins) (i : Nat) (hi : i < l.length) : errs (l.take (i + 1)) = errs (l.take i) ++ [.int .i64 (chkI l[i])] := by
  have h : l.take (i + 1) = l.take i ++ [l[i]] := by rw [List.take_add_one, List.getElem?_eq_getElem hi]; rfl
  rw [h, errs, errs, List.map_append, List.map_append]; rfl
theorem new_one (tab : Tab) (e : Nat) (h : H) (v : Value) (b c : Nat) (hb : tab.ng ≤ b) (hg : h.get b = some (.cells e 1 [v])) (z : List Value) : newD (EV tab) h z 1 false (.slice (some ⟨b, 0, none⟩) 1 c) = some ([v], 1) := by
  have hs := sub_all e 1 [v]
  rw [show ([v] : List Value).length = 1 from rfl] at hs
  unfold newD
  simp only [Bool.false_eq_true, if_false, lenOfD, srcD, subD, ng_eq, tabL_ng, Nat.not_lt.2 hb, Nat.one_mul, hg, hs]
noncomputable def meLoop : Code := .loop (.seq rg33_3 (.seq (.cond (Operand.tmp 11) .skip (Code.exit 0)) (.seq (.block 1 (.seq rg33_4 rg33_5)) rg33_6)))
theorem me_loop (tab : Tab) (hc : CheckP tab 31) (h0 : H) (hng : tab.ng ≤ h0.next) (b o c : Nat) (l : List Ins) (hm : Mem tab h0 b o (cellsI l)) (hn : l.length ≤ 5000) :
    ∀ (k i : Nat) (tm : Tr Value) (h : H) (v : Value), i + k = l.length → tm.get 5 = some v → tm.get 1 = some (.func (.func 31) #[] #[]) → tm.get 8 = some (.slice (some ⟨b, o, none⟩) l.length c) → tm.get 9 = some (.int .i64 l.length) → tm.get 10 = some (.int .i64 i) →
    Row h0 h 26 1 v i (errs (l.take i)) → Kept h0 h →
    ∃ tm' h' v', exR (EV tab) meLoop ⟨false, 22, tm, h⟩ = some (.exit 0, ⟨false, 22, tm', h'⟩) ∧ tm'.get 5 = some v' ∧ Row h0 h' 26 1 v' l.length (errs l) ∧ Kept h0 h' := by
  intro k
  induction k with
  | zero =>
    intro i tm h v hk t5 t1 t8 t9 t10 hr hkp
    have hlt : ¬ i < l.length := by omega
    generalize he : exR (EV tab) meLoop ⟨false, 22, tm, h⟩ = r
    rw [meLoop, exR_loop] at he
    simp only [sS, ofArgs, Int.reduceLT, Int.reduceLE, Int.reduceToNat, Int.reduceEq, readD, Nat.reduceLT, Nat.reduceEqDiff, Nat.reduceAdd, ↓reduceIte, binD, binInt, intBin, unD, convD, oLen, denseD, oFunc, oAppend, Nat.reduceMul, Nat.reduceLeDiff, fF33, tTGa, tTGb, t9, t10, iLss, Int.ofNat_lt, hlt, decide_false] at he
    subst he
    rw [List.take_of_length_le (by omega), show i = l.length by omega] at hr
    exact ⟨_, h, v, rfl, by simp only [Tr.get_set, Nat.reduceEqDiff, ↓reduceIte, t5], hr, hkp⟩
  | succ k ih =>
    intro i tm h v hk t5 t1 t8 t9 t10 hr hkp
    have hlt : i < l.length := by omega
    have hsub := (hm.kept hkp).ins i hlt
    have hnb : ¬ h.next = b := by have := (hm.kept hkp).lt (Nat.le_trans hng hkp.le); omega
    have hhn : ¬ h.next < tab.ng := by have := hkp.le; omega
    have hk2 : Kept h0 ((h.push (.cells 41 6 [.int .i64 0, .string ⟨#[]⟩, .string ⟨#[]⟩, .int .u64 0, .int .i64 0, .int .i64 0])).put h.next (.cells 41 6 (insC l[i]))) := (hkp.push _).put _ hkp.le
    have hr2 : Row h0 ((((h.push (.cells 41 6 [.int .i64 0, .string ⟨#[]⟩, .string ⟨#[]⟩, .int .u64 0, .int .i64 0, .int .i64 0])).put h.next (.cells 41 6 (insC l[i])))).push (.cells 26 1 [.int .i64 (chkI l[i])])) 26 1 v i (errs (l.take i)) := by
      rcases hr with r | ⟨q, r1, r2, r3, r4, r5⟩
      · exact .inl r
      · refine .inr ⟨q, r1, r2, by simp only [H.next_push, H.next_put]; omega, ?_, r5⟩
        rw [H.get_push_lt _ _ (by simp only [H.next_push, H.next_put]; omega), H.get_put, if_neg (by omega), H.get_push_lt _ _ r3]; exact r4
    obtain ⟨v1, h1, e, rr, kk⟩ := append_row (E := EV tab) (t := 103) (ti103 tab) rfl (ti26 tab) rfl (by rw [bt_eq]; show 26 ≠ 86; decide) hng hr2 (hk2.push _)
      (new_one tab 26 ((((h.push (.cells 41 6 [.int .i64 0, .string ⟨#[]⟩, .string ⟨#[]⟩, .int .u64 0, .int .i64 0, .int .i64 0])).put h.next (.cells 41 6 (insC l[i])))).push (.cells 26 1 [.int .i64 (chkI l[i])])) (.int .i64 (chkI l[i])) (h.next + 1) 3 (by omega) (by simp only [H.get_push, H.next_put, H.next_push, if_true]) _) rfl (by decide) (by omega) rfl
    rw [← errs_take l i hlt] at rr
    have hs2 : ∀ a b c d e f : Value, Obj.sub (.cells 41 6 [a, b, c, d, e, f]) 0 6 = some [a, b, c, d, e, f] := fun _ _ _ _ _ _ => rfl
    have e' := e
    have hc' := fun h => hc l[i].op l[i].t l[i].u l[i].num l[i].imm l[i].size h (by omega)
    simp only [insC, insL, insV] at e' hsub hc'
    rw [show checkI l[i].op l[i].t l[i].u l[i].num l[i].imm l[i].size = chkI l[i] from rfl] at hc'
    obtain ⟨tm1, e1, a5, a1, a8, a9, a10⟩ : ∃ tm1, exR (EV tab) meLoop ⟨false, 22, tm, h⟩ = exR (EV tab) meLoop ⟨false, 22, tm1, h1⟩ ∧ tm1.get 5 = some v1 ∧ tm1.get 1 = some (.func (.func 31) #[] #[]) ∧ tm1.get 8 = some (.slice (some ⟨b, o, none⟩) l.length c) ∧ tm1.get 9 = some (.int .i64 l.length) ∧ tm1.get 10 = some (.int .i64 ((i + 1 : Nat) : Int)) := by
      generalize he : exR (EV tab) meLoop ⟨false, 22, tm, h⟩ = r
      rw [meLoop, exR_loop] at he
      simp only [sS, ofArgs, Int.reduceLT, Int.reduceLE, Int.reduceToNat, Int.reduceEq, readD, Nat.reduceLT, Nat.reduceEqDiff, Nat.reduceAdd, ↓reduceIte, binD, binInt, intBin, unD, convD, oLen, denseD, oFunc, oAppend, Nat.reduceMul, Nat.reduceLeDiff, fF33, tTGa, tTGb, sN, sO, loadD, isAggD, storeD, Obj.row, Obj.len, putL, Obj.put, fieldAddrD, indexAddrD, fieldD, indexD, placeOf, fillD, Nat.reduceSub, Nat.reduceLT, Nat.reduceBEq, Nat.reduceMod, Nat.reduceDiv, reduceCtorEq, ng_eq, tabL_ng, t1, t5, t8, t9, t10, iLss, Int.ofNat_lt, hlt, decide_true, Int.natCast_nonneg, and_self, Int.toNat_natCast, hnb, hhn, hsub, hs2, hc', e', add1 i (by omega)] at he
      subst he
      refine ⟨_, rfl, ?_, ?_, ?_, ?_, ?_⟩ <;> simp only [Tr.get_set, Nat.reduceEqDiff, ↓reduceIte, t1, t8, t9]
    obtain ⟨tm', h', v', x1, x2, x3, x4⟩ := ih (i + 1) tm1 h1 v1 (by omega) a5 a1 a8 a9 a10 rr kk
    exact ⟨tm', h', v', by rw [e1]; exact x1, x2, x3, x4⟩
theorem me_run (tab : Tab) (hx : ∀ l, callExt (EV tab) 33 l = none) (hc : CheckP tab 31) (h : H) (hng : tab.ng ≤ h.next) (v : Value) (l : List Ins) (hv : InS tab h v 41 l) (hn : l.length ≤ 5000) :
    ∃ v' h', callR (EV tab) 33 [v, .func (.func 31) #[] #[]] h = some (v', h') ∧ Row h h' 26 1 v' l.length (errs l) ∧ Kept h h' := by
  rcases hv with ⟨rfl, rfl⟩ | ⟨b, o, c, rfl, hm⟩
  · generalize he : callR _ _ _ _ = r
    rw [enter33 _ _ _ (hx _) rfl] at he
    simp only [sS, ofArgs, Int.reduceLT, Int.reduceLE, Int.reduceToNat, Int.reduceEq, readD, Nat.reduceLT, Nat.reduceEqDiff, Nat.reduceAdd, ↓reduceIte, binD, binInt, intBin, unD, convD, oLen, denseD, oFunc, oAppend, Nat.reduceMul, Nat.reduceLeDiff, fF33, tTGa, tTGb, sN, subD, loadD, isAggD, Obj.sub, Obj.get?, storeD, Obj.row, Obj.len, putL, Obj.put, fieldAddrD, indexAddrD, fieldD, indexD, placeOf, fillD, Nat.reduceSub, Nat.reduceLT, Nat.reduceBEq, Nat.reduceMod, Nat.reduceDiv, reduceCtorEq, exR_loop, ng_eq, tabL_ng, iLss, Int.cast_ofNat_Int, Int.reduceLT, decide_false, Int.lt_irrefl] at he
    subst he
    exact ⟨_, _, rfl, Row.nil _ _ _ _, Kept.refl h⟩
  · have key : ∀ tm h1, (h1 = h ∧ tm.get 5 = some (.slice none 0 0) ∧ tm.get 1 = some (.func (.func 31) #[] #[]) ∧ tm.get 8 = some (.slice (some ⟨b, o, none⟩) l.length c) ∧ tm.get 9 = some (.int .i64 l.length) ∧ tm.get 10 = some (.int .i64 0)) → ∃ x s', exR (EV tab) meLoop ⟨false, 22, tm, h1⟩ = some (x, s') ∧
        (x = .exit 0 ∧ ∃ tm' h' v', s' = ⟨false, 22, tm', h'⟩ ∧ tm'.get 5 = some v' ∧ Row h h' 26 1 v' l.length (errs l) ∧ Kept h h') := fun tm h1 p => by
      obtain ⟨rfl, p3, p1, p6, p7, p8⟩ := p
      obtain ⟨tm', h', v', x1, x2, x3, x4⟩ := me_loop tab hc h1 hng b o c l hm hn l.length 0 tm h1 (.slice none 0 0) (by omega) p3 p1 p6 p7 p8 (Row.nil _ _ _ _) (Kept.refl h1)
      exact ⟨_, _, x1, rfl, tm', h', v', rfl, x2, x3, x4⟩
    generalize he : callR _ _ _ _ = r
    rw [enter33 _ _ _ (hx _) rfl] at he
    simp only [sS, ofArgs, Int.reduceLT, Int.reduceLE, Int.reduceToNat, Int.reduceEq, readD, Nat.reduceLT, Nat.reduceEqDiff, Nat.reduceAdd, ↓reduceIte, binD, binInt, intBin, unD, convD, oLen, denseD, oFunc, oAppend, Nat.reduceMul, Nat.reduceLeDiff, b33, p33_0, r33_0, p33_1, r33_1, p33_2, r33_2, tTGa, tTGb] at he
    obtain ⟨x1, s1, ⟨rfl, tm', h', v', rfl, x2, x3, x4⟩, he⟩ := use_run key (fun o => finish (EV tab) [ResultVar.tmp 4] (andThen (unblock 0 o) (exR (EV tab) (.seq rg33_7 .ret)))) he (by
      refine ⟨rfl, ?_, ?_, ?_, ?_, ?_⟩ <;> simp only [Tr.get_set, Nat.reduceEqDiff, ↓reduceIte])
    simp only [sS, ofArgs, Int.reduceLT, Int.reduceLE, Int.reduceToNat, Int.reduceEq, readD, Nat.reduceLT, Nat.reduceEqDiff, Nat.reduceAdd, ↓reduceIte, binD, binInt, intBin, unD, convD, oLen, denseD, oFunc, oAppend, Nat.reduceMul, Nat.reduceLeDiff, fF33, tTGa, tTGb, x2] at he
    subst he
    exact ⟨v', h', rfl, x3, x4⟩
theorem first_nil (tab : Tab) (hx : ∀ l, callExt (EV tab) 32 l = none) (h : H) : callR (EV tab) 32 [.slice none 0 0] h = some (.int .i64 0, h) := by
  generalize he : callR _ _ _ _ = r
  rw [enter32 _ _ _ (hx _) rfl] at he
  simp only [sS, ofArgs, Int.reduceLT, Int.reduceLE, Int.reduceToNat, Int.reduceEq, readD, Nat.reduceLT, Nat.reduceEqDiff, Nat.reduceAdd, ↓reduceIte, binD, binInt, intBin, unD, convD, oLen, denseD, oFunc, oAppend, Nat.reduceMul, Nat.reduceLeDiff, fF32, tTGa, tTGb, sN, subD, loadD, isAggD, Obj.sub, Obj.get?, storeD, Obj.row, Obj.len, putL, Obj.put, fieldAddrD, indexAddrD, fieldD, indexD, placeOf, fillD, Nat.reduceSub, Nat.reduceLT, Nat.reduceBEq, Nat.reduceMod, Nat.reduceDiv, reduceCtorEq, exR_loop, ng_eq, tabL_ng, iLss, Int.cast_ofNat_Int, Int.reduceLT, decide_false, Int.lt_irrefl] at he
  exact he.symm
def allI (l : List Ins) : Int := if 4000 < l.length then 5 else firstI (l.map chkI)
theorem checkAll_run (tab : Tab) (hx : ∀ l, callExt (EV tab) 19 l = none) (hxm : ∀ l, callExt (EV tab) 33 l = none) (hxf : ∀ l, callExt (EV tab) 32 l = none) (hc : CheckP tab 31) (h : H) (hng : tab.ng ≤ h.next) (v : Value) (l : List Ins) (hv : InS tab h v 41 l) (hn : l.length ≤ 5000) :
    ∃ h', callR (EV tab) 19 [v] h = some (.int .i64 (allI l), h') ∧ Kept h h' := by
  have hlen : ∃ a c, v = .slice a l.length c := by
    rcases hv with ⟨rfl, rfl⟩ | ⟨b, o, c, rfl, _⟩
    · exact ⟨_, _, rfl⟩
    · exact ⟨_, _, rfl⟩
  obtain ⟨v', h', e, r, k⟩ := me_run tab hxm hc h hng v l hv hn
  obtain ⟨a, c, rfl⟩ := hlen
  generalize he : callR _ _ _ _ = x
  rw [enter19 _ _ _ (hx _) rfl] at he
  unfold allI
  by_cases q : 4000 < l.length
  · rw [if_pos q]
    have d : decide ((4000 : Int) < (l.length : Nat)) = true := decide_eq_true (by omega)
    simp only [sS, ofArgs, Int.reduceLT, Int.reduceLE, Int.reduceToNat, Int.reduceEq, readD, Nat.reduceLT, Nat.reduceEqDiff, Nat.reduceAdd, ↓reduceIte, binD, binInt, intBin, unD, convD, oLen, denseD, oFunc, oAppend, Nat.reduceMul, Nat.reduceLeDiff, fF19, tTGa, tTGb, sN, subD, loadD, isAggD, Obj.sub, Obj.get?, storeD, Obj.row, Obj.len, putL, Obj.put, fieldAddrD, indexAddrD, fieldD, indexD, placeOf, fillD, Nat.reduceSub, Nat.reduceLT, Nat.reduceBEq, Nat.reduceMod, Nat.reduceDiv, reduceCtorEq, iGtr, gt_iff_lt, d] at he
    subst he
    exact ⟨_, rfl, Kept.refl h⟩
  · rw [if_neg q]
    have d : decide ((4000 : Int) < (l.length : Nat)) = false := decide_eq_false (by omega)
    have ef : callR (EV tab) 32 [v'] h' = some (.int .i64 (firstI (l.map chkI)), h') := by
      rcases r with ⟨rfl, r2, _⟩ | ⟨b, rfl, r2, r3, r4, r5⟩
      · have : l = [] := List.eq_nil_of_length_eq_zero r2
        subst this
        exact first_nil tab hxf h'
      · exact first_run tab hxf h' b 0 l.length (l.map chkI) (by omega) r4 (by simp) (by omega)
    simp only [sS, ofArgs, Int.reduceLT, Int.reduceLE, Int.reduceToNat, Int.reduceEq, readD, Nat.reduceLT, Nat.reduceEqDiff, Nat.reduceAdd, ↓reduceIte, binD, binInt, intBin, unD, convD, oLen, denseD, oFunc, oAppend, Nat.reduceMul, Nat.reduceLeDiff, fF19, tTGa, tTGb, sN, subD, loadD, isAggD, Obj.sub, Obj.get?, storeD, Obj.row, Obj.len, putL, Obj.put, fieldAddrD, indexAddrD, fieldD, indexD, placeOf, fillD, Nat.reduceSub, Nat.reduceLT, Nat.reduceBEq, Nat.reduceMod, Nat.reduceDiv, reduceCtorEq, iGtr, gt_iff_lt, d, e, ef] at he
    subst he
    exact ⟨_, rfl, k⟩
/-! ### short -/
def okS (x : Ins) : Bool := decide (x.t.length ≤ 100) && decide (x.u.length ≤ 100)
def shortB (l : List Ins) : Bool := !(decide (200 < l.length) && decide (l.length ≠ 4001)) && l.all okS
noncomputable def shLoop : Code := .loop (.seq rg4_4 (.seq (.cond (Operand.tmp 16) .skip (Code.exit 0)) (.seq (.block 1 (.seq rg4_5 (.seq rg4_6 (.cond (Operand.tmp 28) (.seq rg4_7 .ret) .skip)))) rg4_8)))
theorem sh_loop (tab : Tab) (h0 : H) (hng : tab.ng ≤ h0.next) (b o c : Nat) (l : List Ins) (hm : Mem tab h0 b o (cellsI l)) (hn : l.length ≤ 5000) :
    ∀ (k i : Nat) (tm : Tr Value) (h : H), i + k = l.length → tm.get 13 = some (.slice (some ⟨b, o, none⟩) l.length c) → tm.get 14 = some (.int .i64 l.length) → tm.get 15 = some (.int .i64 i) → Kept h0 h →
    ∃ tm' h', Kept h0 h' ∧ ((exR (EV tab) shLoop ⟨false, 30, tm, h⟩ = some (.exit 0, ⟨false, 30, tm', h'⟩) ∧ (l.drop i).all okS = true) ∨
      (exR (EV tab) shLoop ⟨false, 30, tm, h⟩ = some (.ret, ⟨false, 30, tm', h'⟩) ∧ (l.drop i).all okS = false ∧ tm'.get 2 = some (.bool false))) := by
  intro k
  induction k with
  | zero =>
    intro i tm h hk t13 t14 t15 hkp
    have hlt : ¬ i < l.length := by omega
    generalize he : exR (EV tab) shLoop ⟨false, 30, tm, h⟩ = r
    rw [shLoop, exR_loop] at he
    simp only [sS, ofArgs, Int.reduceLT, Int.reduceLE, Int.reduceToNat, Int.reduceEq, readD, Nat.reduceLT, Nat.reduceEqDiff, Nat.reduceAdd, ↓reduceIte, binD, binInt, intBin, unD, convD, oLen, denseD, oFunc, oAppend, Nat.reduceMul, Nat.reduceLeDiff, fF4, tTGa, tTGb, t14, t15, iLss, Int.ofNat_lt, hlt, decide_false] at he
    subst he
    exact ⟨_, h, hkp, .inl ⟨rfl, by rw [List.drop_eq_nil_of_le (by omega)]; rfl⟩⟩
  | succ k ih =>
    intro i tm h hk t13 t14 t15 hkp
    have hlt : i < l.length := by omega
    have hd : l.drop i = l[i] :: l.drop (i + 1) := (List.getElem_cons_drop hlt).symm
    have hsub := (hm.kept hkp).ins i hlt
    have hhn : ¬ h.next < tab.ng := by have := hkp.le; omega
    have hnb : ¬ h.next = b := by have := (hm.kept hkp).lt (Nat.le_trans hng hkp.le); omega
    have hs1 : ∀ a b c d e f : Value, Obj.sub (.cells 40 6 [a, b, c, d, e, f]) 1 1 = some [b] := fun _ _ _ _ _ _ => rfl
    have hs2 : ∀ a b c d e f : Value, Obj.sub (.cells 40 6 [a, b, c, d, e, f]) 2 1 = some [c] := fun _ _ _ _ _ _ => rfl
    have z1 : (ByteArray.mk ⟨l[i].t⟩).size = l[i].t.length := rfl
    have z2 : (ByteArray.mk ⟨l[i].u⟩).size = l[i].u.length := rfl
    simp only [insC, insL] at hsub
    have g1 : decide ((100 : Int) < (l[i].t.length : Nat)) = !decide (l[i].t.length ≤ 100) := by by_cases h : l[i].t.length ≤ 100 <;> simp [h] <;> omega
    have g2 : decide ((100 : Int) < (l[i].u.length : Nat)) = !decide (l[i].u.length ≤ 100) := by by_cases h : l[i].u.length ≤ 100 <;> simp [h] <;> omega
    rw [hd, List.all_cons]
    have hk3 : Kept h0 ((h.push (.cells 40 6 [.int .i64 0, .string ⟨#[]⟩, .string ⟨#[]⟩, .int .u64 0, .int .i64 0, .int .i64 0])).put h.next (.cells 40 6 (insC l[i]))) := (hkp.push _).put _ hkp.le
    cases q : okS l[i] with
    | true =>
      simp only [okS, Bool.and_eq_true] at q
      obtain ⟨q1, q2⟩ := q
      obtain ⟨tm1, e1, a13, a14, a15⟩ : ∃ tm1, exR (EV tab) shLoop ⟨false, 30, tm, h⟩ = exR (EV tab) shLoop ⟨false, 30, tm1, (h.push (.cells 40 6 [.int .i64 0, .string ⟨#[]⟩, .string ⟨#[]⟩, .int .u64 0, .int .i64 0, .int .i64 0])).put h.next (.cells 40 6 (insC l[i]))⟩ ∧ tm1.get 13 = some (.slice (some ⟨b, o, none⟩) l.length c) ∧ tm1.get 14 = some (.int .i64 l.length) ∧ tm1.get 15 = some (.int .i64 ((i + 1 : Nat) : Int)) := by
        generalize he : exR (EV tab) shLoop ⟨false, 30, tm, h⟩ = r
        rw [shLoop, exR_loop] at he
        simp only [sS, ofArgs, Int.reduceLT, Int.reduceLE, Int.reduceToNat, Int.reduceEq, readD, Nat.reduceLT, Nat.reduceEqDiff, Nat.reduceAdd, ↓reduceIte, binD, binInt, intBin, unD, convD, oLen, denseD, oFunc, oAppend, Nat.reduceMul, Nat.reduceLeDiff, fF4, tTGa, tTGb, sN, sO, loadD, isAggD, storeD, Obj.row, Obj.len, putL, Obj.put, fieldAddrD, indexAddrD, fieldD, indexD, placeOf, fillD, Nat.reduceSub, Nat.reduceLT, Nat.reduceBEq, Nat.reduceMod, Nat.reduceDiv, reduceCtorEq, ng_eq, tabL_ng, t13, t14, t15, iLss, iGtr, gt_iff_lt, Int.ofNat_lt, hlt, decide_true, Int.natCast_nonneg, and_self, Int.toNat_natCast, hnb, hhn, hsub, hs1, hs2, z1, z2, g1, g2, q1, q2, Bool.not_true, add1 i (by omega)] at he
        subst he
        refine ⟨_, rfl, ?_, ?_, ?_⟩ <;> simp only [Tr.get_set, Nat.reduceEqDiff, ↓reduceIte, t13, t14]
      obtain ⟨tm', h', k', x⟩ := ih (i + 1) tm1 _ (by omega) a13 a14 a15 hk3
      rw [e1]
      exact ⟨tm', h', k', by simpa using x⟩
    | false =>
      generalize he : exR (EV tab) shLoop ⟨false, 30, tm, h⟩ = r
      rw [shLoop, exR_loop] at he
      cases q1 : decide (l[i].t.length ≤ 100) with
      | false =>
        simp only [sS, ofArgs, Int.reduceLT, Int.reduceLE, Int.reduceToNat, Int.reduceEq, readD, Nat.reduceLT, Nat.reduceEqDiff, Nat.reduceAdd, ↓reduceIte, binD, binInt, intBin, unD, convD, oLen, denseD, oFunc, oAppend, Nat.reduceMul, Nat.reduceLeDiff, fF4, tTGa, tTGb, sN, sO, loadD, isAggD, storeD, Obj.row, Obj.len, putL, Obj.put, fieldAddrD, indexAddrD, fieldD, indexD, placeOf, fillD, Nat.reduceSub, Nat.reduceLT, Nat.reduceBEq, Nat.reduceMod, Nat.reduceDiv, reduceCtorEq, ng_eq, tabL_ng, t13, t14, t15, iLss, iGtr, gt_iff_lt, Int.ofNat_lt, hlt, decide_true, Int.natCast_nonneg, and_self, Int.toNat_natCast, hnb, hhn, hsub, hs1, hs2, z1, z2, g1, g2, q1, Bool.not_false] at he
        subst he
        exact ⟨_, _, hk3, .inr ⟨rfl, rfl, by simp only [Tr.get_set, Nat.reduceEqDiff, ↓reduceIte]⟩⟩
      | true =>
        have q2 : decide (l[i].u.length ≤ 100) = false := by unfold okS at q; rw [q1] at q; simpa using q
        simp only [sS, ofArgs, Int.reduceLT, Int.reduceLE, Int.reduceToNat, Int.reduceEq, readD, Nat.reduceLT, Nat.reduceEqDiff, Nat.reduceAdd, ↓reduceIte, binD, binInt, intBin, unD, convD, oLen, denseD, oFunc, oAppend, Nat.reduceMul, Nat.reduceLeDiff, fF4, tTGa, tTGb, sN, sO, loadD, isAggD, storeD, Obj.row, Obj.len, putL, Obj.put, fieldAddrD, indexAddrD, fieldD, indexD, placeOf, fillD, Nat.reduceSub, Nat.reduceLT, Nat.reduceBEq, Nat.reduceMod, Nat.reduceDiv, reduceCtorEq, ng_eq, tabL_ng, t13, t14, t15, iLss, iGtr, gt_iff_lt, Int.ofNat_lt, hlt, decide_true, Int.natCast_nonneg, and_self, Int.toNat_natCast, hnb, hhn, hsub, hs1, hs2, z1, z2, g1, g2, q1, q2, Bool.not_true, Bool.not_false] at he
        subst he
        exact ⟨_, _, hk3, .inr ⟨rfl, rfl, by simp only [Tr.get_set, Nat.reduceEqDiff, ↓reduceIte]⟩⟩
theorem short_run (tab : Tab) (hx : ∀ l, callExt (EV tab) 4 l = none) (h : H) (hng : tab.ng ≤ h.next) (v : Value) (l : List Ins) (hv : InS tab h v 40 l) :
    ∃ h', callR (EV tab) 4 [v] h = some (.bool (shortB l), h') ∧ Kept h h' := by
  unfold shortB
  rcases hv with ⟨rfl, rfl⟩ | ⟨b, o, c, rfl, hm⟩
  · generalize he : callR _ _ _ _ = r
    rw [enter4 _ _ _ (hx _) rfl] at he
    simp only [sS, ofArgs, Int.reduceLT, Int.reduceLE, Int.reduceToNat, Int.reduceEq, readD, Nat.reduceLT, Nat.reduceEqDiff, Nat.reduceAdd, ↓reduceIte, binD, binInt, intBin, unD, convD, oLen, denseD, oFunc, oAppend, Nat.reduceMul, Nat.reduceLeDiff, fF4, tTGa, tTGb, sN, subD, loadD, isAggD, Obj.sub, Obj.get?, storeD, Obj.row, Obj.len, putL, Obj.put, fieldAddrD, indexAddrD, fieldD, indexD, placeOf, fillD, Nat.reduceSub, Nat.reduceLT, Nat.reduceBEq, Nat.reduceMod, Nat.reduceDiv, reduceCtorEq, exR_loop, ng_eq, tabL_ng, iLss, iGtr, gt_iff_lt, Int.cast_ofNat_Int, Int.reduceLT, decide_false, Int.lt_irrefl] at he
    subst he
    exact ⟨_, rfl, Kept.refl h⟩
  · generalize he : callR _ _ _ _ = x
    rw [enter4 _ _ _ (hx _) rfl] at he
    have g1 : decide ((200 : Int) < (l.length : Nat)) = decide (200 < l.length) := by rw [decide_eq_decide]; omega
    have g2 : (((l.length : Nat) : Int) != 4001) = decide (l.length ≠ 4001) := by
      rw [Bool.eq_iff_iff]; simp; omega
    by_cases q : 200 < l.length ∧ l.length ≠ 4001
    · have q1 : decide (200 < l.length) = true := decide_eq_true q.1
      have q2 : decide (l.length ≠ 4001) = true := decide_eq_true q.2
      rw [q1, q2]
      simp only [sS, ofArgs, Int.reduceLT, Int.reduceLE, Int.reduceToNat, Int.reduceEq, readD, Nat.reduceLT, Nat.reduceEqDiff, Nat.reduceAdd, ↓reduceIte, binD, binInt, intBin, unD, convD, oLen, denseD, oFunc, oAppend, Nat.reduceMul, Nat.reduceLeDiff, fF4, tTGa, tTGb, sN, subD, loadD, isAggD, Obj.sub, Obj.get?, storeD, Obj.row, Obj.len, putL, Obj.put, fieldAddrD, indexAddrD, fieldD, indexD, placeOf, fillD, Nat.reduceSub, Nat.reduceLT, Nat.reduceBEq, Nat.reduceMod, Nat.reduceDiv, reduceCtorEq, iGtr, iNeq, gt_iff_lt, g1, g2, q1, q2] at he
      subst he
      exact ⟨_, rfl, Kept.refl h⟩
    · have hn : l.length ≤ 5000 := by omega
      have q3 : (decide (200 < l.length) && decide (l.length ≠ 4001)) = false := by
        rw [Bool.and_eq_false_iff]
        by_cases q1 : 200 < l.length
        · exact .inr (decide_eq_false (fun h => q ⟨q1, h⟩))
        · exact .inl (decide_eq_false q1)
      rw [q3]
      have key : ∀ tm h1, (h1 = h ∧ tm.get 13 = some (.slice (some ⟨b, o, none⟩) l.length c) ∧ tm.get 14 = some (.int .i64 l.length) ∧ tm.get 15 = some (.int .i64 0)) → ∃ x s', exR (EV tab) shLoop ⟨false, 30, tm, h1⟩ = some (x, s') ∧
          ((x = .exit 0 ∧ ∃ tm' h', s' = ⟨false, 30, tm', h'⟩ ∧ Kept h h' ∧ l.all okS = true) ∨ (x = .ret ∧ ∃ tm' h', s' = ⟨false, 30, tm', h'⟩ ∧ Kept h h' ∧ l.all okS = false ∧ tm'.get 2 = some (.bool false))) := fun tm h1 p => by
        obtain ⟨rfl, p1, p2, p3⟩ := p
        obtain ⟨tm', h', kk, ⟨e, z⟩ | ⟨e, z, z2⟩⟩ := sh_loop tab h1 hng b o c l hm hn l.length 0 tm h1 (by omega) p1 p2 p3 (Kept.refl h1)
        · exact ⟨_, _, e, .inl ⟨rfl, tm', h', rfl, kk, by rw [List.drop_zero] at z; exact z⟩⟩
        · exact ⟨_, _, e, .inr ⟨rfl, tm', h', rfl, kk, by rw [List.drop_zero] at z; exact z, z2⟩⟩
      have go : ∀ (x : Option (Value × H)) (tm : Tr Value), (tm.get 13 = some (.slice (some ⟨b, o, none⟩) l.length c) ∧ tm.get 14 = some (.int .i64 l.length) ∧ tm.get 15 = some (.int .i64 0)) →
          finish (EV tab) [ResultVar.tmp 2] (andThen (unblock 0 (exR (EV tab) shLoop ⟨false, 30, tm, h⟩)) (exR (EV tab) (.seq rg4_9 .ret))) = x → ∃ h', x = some (.bool (!false && l.all okS), h') ∧ Kept h h' := fun x tm p he => by
        obtain ⟨x1, s1, ⟨rfl, tm', h', rfl, kk, z⟩ | ⟨rfl, tm', h', rfl, kk, z, z2⟩, he⟩ := use_run key (fun o => finish (EV tab) [ResultVar.tmp 2] (andThen (unblock 0 o) (exR (EV tab) (.seq rg4_9 .ret)))) he ⟨rfl, p⟩
        · rw [z]
          simp only [sS, ofArgs, Int.reduceLT, Int.reduceLE, Int.reduceToNat, Int.reduceEq, readD, Nat.reduceLT, Nat.reduceEqDiff, Nat.reduceAdd, ↓reduceIte, binD, binInt, intBin, unD, convD, oLen, denseD, oFunc, oAppend, Nat.reduceMul, Nat.reduceLeDiff, fF4, tTGa, tTGb] at he
          subst he
          exact ⟨_, rfl, kk⟩
        · rw [z]
          simp only [sS, ofArgs, Int.reduceLT, Int.reduceLE, Int.reduceToNat, Int.reduceEq, readD, Nat.reduceLT, Nat.reduceEqDiff, Nat.reduceAdd, ↓reduceIte, binD, binInt, intBin, unD, convD, oLen, denseD, oFunc, oAppend, Nat.reduceMul, Nat.reduceLeDiff, fF4, tTGa, tTGb, z2] at he
          subst he
          exact ⟨_, rfl, kk⟩
      by_cases q1 : 200 < l.length
      · have q1' : decide (200 < l.length) = true := decide_eq_true q1
        have q2' : decide (l.length ≠ 4001) = false := decide_eq_false (fun h => q ⟨q1, h⟩)
        simp only [sS, ofArgs, Int.reduceLT, Int.reduceLE, Int.reduceToNat, Int.reduceEq, readD, Nat.reduceLT, Nat.reduceEqDiff, Nat.reduceAdd, ↓reduceIte, binD, binInt, intBin, unD, convD, oLen, denseD, oFunc, oAppend, Nat.reduceMul, Nat.reduceLeDiff, b4, p4_0, r4_0, p4_1, r4_1, p4_3, r4_3, tTGa, tTGb, iGtr, iNeq, gt_iff_lt, g1, g2, q1', q2'] at he
        exact go _ _ ⟨by simp only [Tr.get_set, Nat.reduceEqDiff, ↓reduceIte], by simp only [Tr.get_set, Nat.reduceEqDiff, ↓reduceIte], by simp only [Tr.get_set, Nat.reduceEqDiff, ↓reduceIte]⟩ he
      · have q1' : decide (200 < l.length) = false := decide_eq_false q1
        simp only [sS, ofArgs, Int.reduceLT, Int.reduceLE, Int.reduceToNat, Int.reduceEq, readD, Nat.reduceLT, Nat.reduceEqDiff, Nat.reduceAdd, ↓reduceIte, binD, binInt, intBin, unD, convD, oLen, denseD, oFunc, oAppend, Nat.reduceMul, Nat.reduceLeDiff, b4, p4_0, r4_0, p4_1, r4_1, p4_3, r4_3, tTGa, tTGb, iGtr, iNeq, gt_iff_lt, g1, g2, q1'] at he
        exact go _ _ ⟨by simp only [Tr.get_set, Nat.reduceEqDiff, ↓reduceIte], by simp only [Tr.get_set, Nat.reduceEqDiff, ↓reduceIte], by simp only [Tr.get_set, Nat.reduceEqDiff, ↓reduceIte]⟩ he
/-! ### SameBytes, OwnBytes -/
/-- A slice of bytes. -/
def BS (tab : Tab) (h : H) (v : Value) (l : List UInt8) : Prop := (v = .slice none 0 0 ∧ l = []) ∨ ∃ b o c, v = .slice (some ⟨b, o, none⟩) l.length c ∧ Mem tab h b o (bs l)
theorem BS.kept {tab : Tab} {h h' : H} {v : Value} {l : List UInt8} (i : BS tab h v l) (k : Kept h h') : BS tab h' v l := by
  rcases i with i | ⟨b, o, c, i1, i2⟩
  · exact .inl i
  · exact .inr ⟨b, o, c, i1, i2.kept k⟩
theorem Bytes.bs {tab : Tab} {h0 h : H} {v : Value} {l : List UInt8} (b : Bytes h0 h v l) (hng : tab.ng ≤ h0.next) : BS tab h v l := by
  obtain ⟨c, d, r1, r2, r3, r4⟩ := b
  exact .inr ⟨c, 0, d, r1, mem_cells (by omega) r3 r4⟩
theorem Row.bs {tab : Tab} {h0 h : H} {v : Value} {l : List UInt8} {n : Nat} (hn : n = l.length) (r : Row h0 h 5 1 v n (bs l)) (hng : tab.ng ≤ h0.next) : BS tab h v l := by
  subst hn
  rcases r with ⟨r1, r2, _⟩ | ⟨b, r1, r2, r3, r4, _⟩
  · exact .inl ⟨r1, List.eq_nil_of_length_eq_zero r2⟩
  · exact .inr ⟨b, 0, 0, r1, mem_cells (by omega) r3 r4⟩
theorem Mem.bytes {tab : Tab} {h : H} {b o : Nat} {l : List UInt8} (m : Mem tab h b o (bs l)) : subD (EV tab) h b o l.length = some (bs l) := by
  have := m.all
  rwa [bs_length] at this
theorem str_bs (tab : Tab) {h : H} {v : Value} {l : List UInt8} (i : BS tab h v l) (tm : Tr Value) (n : Nat) (hv : ev (EV tab) tm (.tmp n) = some v) : oStr (EV tab) h tm 23 (.tmp n) = some (.string ⟨⟨l⟩⟩) := by
  rcases i with ⟨rfl, rfl⟩ | ⟨b, o, c, rfl, m⟩
  · simp only [oStr, hv, ti23, str0, ti5]
  · by_cases q : l.length = 0
    · have : l = [] := List.eq_nil_of_length_eq_zero q
      subst this
      simp only [oStr, hv, ti23, List.length_nil, if_true, str0, ti5]
    · simp only [oStr, hv, ti23, if_neg q, strOf, ti5, m.bytes, byteList_bs]
theorem new_mem (tab : Tab) {h : H} {b o : Nat} {l : List UInt8} (m : Mem tab h b o (bs l)) (c : Nat) (z : List Value) : newD (EV tab) h z 1 false (.slice (some ⟨b, o, none⟩) l.length c) = some (bs l, l.length) := by
  unfold newD
  simp only [Bool.false_eq_true, if_false, lenOfD, srcD, Nat.mul_one, m.bytes]
theorem same_run (tab : Tab) (hx : ∀ l, callExt (EV tab) 12 l = none) (h : H) (v w : Value) (l m : List UInt8) (hv : BS tab h v l) (hw : BS tab h w m) :
    callR (EV tab) 12 [v, w] h = some (.bool (l == m), h) := by
  have e1 := fun tm n hh => str_bs tab hv tm n hh
  have e2 := fun tm n hh => str_bs tab hw tm n hh
  generalize he : callR _ _ _ _ = r
  rw [enter12 _ _ _ (hx _) rfl] at he
  simp only [sS, ofArgs, Int.reduceLT, Int.reduceLE, Int.reduceToNat, Int.reduceEq, readD, Nat.reduceLT, Nat.reduceEqDiff, Nat.reduceAdd, ↓reduceIte, binD, binInt, intBin, unD, convD, oLen, denseD, oFunc, oAppend, Nat.reduceMul, Nat.reduceLeDiff, fF12, tTGa, tTGb, sN, subD, loadD, isAggD, Obj.sub, Obj.get?, storeD, Obj.row, Obj.len, putL, Obj.put, fieldAddrD, indexAddrD, fieldD, indexD, placeOf, fillD, Nat.reduceSub, Nat.reduceLT, Nat.reduceBEq, Nat.reduceMod, Nat.reduceDiv, reduceCtorEq, e1, e2, binStr, strBin, sEql, bs_beq] at he
  exact he.symm
theorem own_run (tab : Tab) (hx : ∀ l, callExt (EV tab) 11 l = none) (h : H) (hng : tab.ng ≤ h.next) (v : Value) (l : List UInt8) (hv : BS tab h v l) (hl : l.length ≤ 1000000) :
    ∃ v' h', callR (EV tab) 11 [v] h = some (v', h') ∧ Row h h' 5 1 v' l.length (bs l) ∧ Kept h h' := by
  have hnw : ∀ z, newD (EV tab) h z 1 false v = some (bs l, l.length) := fun z => by
    rcases hv with ⟨rfl, rfl⟩ | ⟨b, o, c, rfl, m⟩
    · rfl
    · exact new_mem tab m c z
  obtain ⟨v', h', e, r, k⟩ := append_row (E := EV tab) (t := 23) (ti23 tab) rfl (ti5 tab) rfl (by rw [bt_eq]; show (5 : Nat) ≠ 86; decide) hng (Row.nil h h 5 1) (Kept.refl h) (hnw _) (bs_one _) hl (by decide) (by rw [bs_length, Nat.mul_one])
  generalize he : callR _ _ _ _ = x
  rw [enter11 _ _ _ (hx _) rfl] at he
  simp only [sS, ofArgs, Int.reduceLT, Int.reduceLE, Int.reduceToNat, Int.reduceEq, readD, Nat.reduceLT, Nat.reduceEqDiff, Nat.reduceAdd, ↓reduceIte, binD, binInt, intBin, unD, convD, oLen, denseD, oFunc, oAppend, Nat.reduceMul, Nat.reduceLeDiff, fF11, tTGa, tTGb, e] at he
  subst he
  rw [Nat.zero_add, List.nil_append] at r
  exact ⟨v', h', rfl, r, k⟩
/-! ### mapped: the bytes of instructions -/
def bytesX (x : Ins) : List UInt8 := bytesL x.op.toNat (usesAt x.op) x.t x.u x.num x.imm x.size
abbrev byF : Value := .func (.func 22) #[] #[]
theorem bytesX_run (tab : Tab) (hB : ByX tab) (h : H) (hng : tab.ng ≤ h.next) (x : Ins) (hx : chkI x = 0) (hn : x.num < 18446744073709551616) :
    ∃ v' h', callR (EV tab) 22 [insV x.op x.t x.u x.num x.imm x.size] h = some (v', h') ∧ Bytes h h' v' (bytesX x) ∧ Kept h h' := by
  obtain ⟨k, r, hk0, hk, hk2, -, -, -, -, -, hi, hs, hp⟩ := check_ok hx (by omega)
  obtain ⟨v', h', e, b, kk⟩ := bytes_run tab hB h hng k r hk x.t x.u x.num x.imm x.size hn hi hs hp
  refine ⟨v', h', by rw [hk0]; exact e, ?_, kk⟩
  unfold bytesX usesAt
  rw [hk2, hk0]
  exact b
/-- Slices of bytes, each a block of its own. -/
def PartsR (h1 h : H) (vs : List Value) (bl : List (List UInt8)) : Prop := vs.length = bl.length ∧ ∀ (j : Nat) (v : Value) (l : List UInt8), vs[j]? = some v → bl[j]? = some l → Bytes h1 h v l
theorem PartsR.kept {h1 h h' : H} {vs : List Value} {bl : List (List UInt8)} (p : PartsR h1 h vs bl) (k : Kept h h') : PartsR h1 h' vs bl :=
  ⟨p.1, fun j v l a b => by obtain ⟨c, d, r1, r2, r3, r4⟩ := p.2 j v l a b; exact ⟨c, d, r1, r2, Nat.lt_of_lt_of_le r3 k.le, by rw [k.get _ r3]; exact r4⟩⟩
theorem PartsR.one {h1 h : H} {vs : List Value} {bl : List (List UInt8)} (p : PartsR h1 h vs bl) : vs.all isOne = true := by
  rw [List.all_eq_true]
  intro v hv
  obtain ⟨j, hj⟩ := List.getElem?_of_mem hv
  have hlt : j < bl.length := by rw [← p.1]; exact (List.getElem?_eq_some_iff.1 hj).1
  obtain ⟨c, d, r1, _⟩ := p.2 j v bl[j] hj (by simp)
  rw [r1]; rfl
theorem PartsR.snoc {h1 h : H} {vs : List Value} {bl : List (List UInt8)} (p : PartsR h1 h vs bl) {v : Value} {l : List UInt8} (b : Bytes h1 h v l) : PartsR h1 h (vs ++ [v]) (bl ++ [l]) := by
  refine ⟨by simp [p.1], fun j w m hw hm => ?_⟩
  by_cases q : j < vs.length
  · rw [List.getElem?_append_left q] at hw
    rw [List.getElem?_append_left (by rw [← p.1]; exact q)] at hm
    exact p.2 j w m hw hm
  · have h1 := (List.getElem?_eq_some_iff.1 hw).1
    simp at h1
    have hj : j = vs.length := by omega
    subst hj
    rw [List.getElem?_append_right (Nat.le_refl _)] at hw
    rw [p.1, List.getElem?_append_right (Nat.le_refl _)] at hm
    simp at hw hm
    subst hw; subst hm
    exact b
noncomputable def mbLoop : Code := .loop (.seq rg21_3 (.seq (.cond (Operand.tmp 11) .skip (Code.exit 0)) (.seq (.block 1 (.seq rg21_4 rg21_5)) rg21_6)))
theorem mb_loop (tab : Tab) (hB : ByX tab) (h0 : H) (hng : tab.ng ≤ h0.next) (b o c : Nat) (l : List Ins) (hm : Mem tab h0 b o (cellsI l)) (hn : l.length ≤ 5000) (hok : ∀ x ∈ l, chkI x = 0 ∧ x.num < 18446744073709551616) :
    ∀ (k i : Nat) (tm : Tr Value) (h : H) (v : Value) (vs : List Value), i + k = l.length → tm.get 5 = some v → tm.get 1 = some byF → tm.get 8 = some (.slice (some ⟨b, o, none⟩) l.length c) → tm.get 9 = some (.int .i64 l.length) → tm.get 10 = some (.int .i64 i) →
    Row h0 h 23 1 v i vs → PartsR h0 h vs ((l.take i).map bytesX) → Kept h0 h →
    ∃ tm' h' v' vs', exR (EV tab) mbLoop ⟨false, 22, tm, h⟩ = some (.exit 0, ⟨false, 22, tm', h'⟩) ∧ tm'.get 5 = some v' ∧ Row h0 h' 23 1 v' l.length vs' ∧ PartsR h0 h' vs' (l.map bytesX) ∧ Kept h0 h' := by
  intro k
  induction k with
  | zero =>
    intro i tm h v vs hk t5 t1 t8 t9 t10 hr hpa hkp
    have hlt : ¬ i < l.length := by omega
    generalize he : exR (EV tab) mbLoop ⟨false, 22, tm, h⟩ = r
    rw [mbLoop, exR_loop] at he
    simp only [sS, ofArgs, Int.reduceLT, Int.reduceLE, Int.reduceToNat, Int.reduceEq, readD, Nat.reduceLT, Nat.reduceEqDiff, Nat.reduceAdd, ↓reduceIte, binD, binInt, intBin, unD, convD, oLen, denseD, oFunc, oAppend, Nat.reduceMul, Nat.reduceLeDiff, fF21, tTGa, tTGb, t9, t10, iLss, Int.ofNat_lt, hlt, decide_false] at he
    subst he
    rw [List.take_of_length_le (by omega)] at hpa
    rw [show i = l.length by omega] at hr
    exact ⟨_, h, v, vs, rfl, by simp only [Tr.get_set, Nat.reduceEqDiff, ↓reduceIte, t5], hr, hpa, hkp⟩
  | succ k ih =>
    intro i tm h v vs hk t5 t1 t8 t9 t10 hr hpa hkp
    have hlt : i < l.length := by omega
    have hsub := (hm.kept hkp).ins i hlt
    have hnb : ¬ h.next = b := by have := (hm.kept hkp).lt (Nat.le_trans hng hkp.le); omega
    have hhn : ¬ h.next < tab.ng := by have := hkp.le; omega
    have hk2 : Kept h ((h.push (.cells 41 6 [.int .i64 0, .string ⟨#[]⟩, .string ⟨#[]⟩, .int .u64 0, .int .i64 0, .int .i64 0])).put h.next (.cells 41 6 (insC l[i]))) := ((Kept.refl h).push _).put _ (Nat.le_refl _)
    obtain ⟨hx0, hxn⟩ := hok l[i] (List.getElem_mem hlt)
    obtain ⟨v2, h2, e2, b2, k2⟩ := bytesX_run tab hB ((h.push (.cells 41 6 [.int .i64 0, .string ⟨#[]⟩, .string ⟨#[]⟩, .int .u64 0, .int .i64 0, .int .i64 0])).put h.next (.cells 41 6 (insC l[i]))) (by simp only [H.next_push, H.next_put]; omega) l[i] hx0 hxn
    have b2c := b2
    obtain ⟨q0, d0, hv2, -, -, -⟩ := b2c
    subst hv2
    have hkk : Kept h h2 := hk2.trans k2
    have hn2 : tab.ng ≤ h2.next := by have := hkk.le; omega
    have hone : isOne (.slice (some ⟨q0, 0, none⟩) (bytesX l[i]).length d0) = true := rfl
    have hb2' : Bytes h0 h2 (.slice (some ⟨q0, 0, none⟩) (bytesX l[i]).length d0) (bytesX l[i]) := b2.weak (by have := hkp.le; simp only [H.next_push, H.next_put]; omega)
    have hr2 : Row h0 (h2.push (.cells 23 1 [(.slice (some ⟨q0, 0, none⟩) (bytesX l[i]).length d0)])) 23 1 v i vs := hr.kept (hkk.push _)
    obtain ⟨v1, h1, e, rr, kk, le1, fr⟩ := append_row2 (E := EV tab) (t := 65) (ti65 tab) rfl (ti23 tab) rfl (by rw [bt_eq]; show 23 ≠ 86; decide) hng hr2 ((hkp.trans hkk).push _)
      (new_one tab 23 (h2.push (.cells 23 1 [(.slice (some ⟨q0, 0, none⟩) (bytesX l[i]).length d0)])) (.slice (some ⟨q0, 0, none⟩) (bytesX l[i]).length d0) h2.next 3 hn2 (H.get_push_self _ _) _) (by simp [hone]) (by decide) (by omega) rfl
    have hpa2 : PartsR h0 h2 (vs ++ [(.slice (some ⟨q0, 0, none⟩) (bytesX l[i]).length d0)]) ((l.take (i + 1)).map bytesX) := by
      have : l.take (i + 1) = l.take i ++ [l[i]] := by rw [List.take_add_one, List.getElem?_eq_getElem hlt]; rfl
      rw [this, List.map_append]
      exact (hpa.kept hkk).snoc hb2'
    have hpa3 : PartsR h0 h1 (vs ++ [(.slice (some ⟨q0, 0, none⟩) (bytesX l[i]).length d0)]) ((l.take (i + 1)).map bytesX) := by
      refine ⟨hpa2.1, fun j w m hw hm => ?_⟩
      obtain ⟨q, d, r1, r2, r3, r4⟩ := hpa2.2 j w m hw hm
      refine ⟨q, d, r1, r2, by rw [H.next_push] at le1; omega, ?_⟩
      rw [fr q (by rw [H.next_push]; omega) ?_, H.get_push_lt _ _ r3]
      · exact r4
      · intro q' hq' hqq
        subst hqq
        rcases hr2 with ⟨z1, _, _⟩ | ⟨q'', z1, _, z3, z4, _⟩
        · rw [z1] at hq'; cases hq'
        · rw [z1] at hq'; cases hq'
          rw [H.get_push_lt _ _ r3, r4] at z4
          cases z4
    have hs2 : ∀ a b c d e f : Value, Obj.sub (.cells 41 6 [a, b, c, d, e, f]) 0 6 = some [a, b, c, d, e, f] := fun _ _ _ _ _ _ => rfl
    simp only [insC, insL, insV] at e2 hsub
    obtain ⟨tm1, e1, a5, a1, a8, a9, a10⟩ : ∃ tm1, exR (EV tab) mbLoop ⟨false, 22, tm, h⟩ = exR (EV tab) mbLoop ⟨false, 22, tm1, h1⟩ ∧ tm1.get 5 = some v1 ∧ tm1.get 1 = some byF ∧ tm1.get 8 = some (.slice (some ⟨b, o, none⟩) l.length c) ∧ tm1.get 9 = some (.int .i64 l.length) ∧ tm1.get 10 = some (.int .i64 ((i + 1 : Nat) : Int)) := by
      generalize he : exR (EV tab) mbLoop ⟨false, 22, tm, h⟩ = r
      rw [mbLoop, exR_loop] at he
      simp only [sS, ofArgs, Int.reduceLT, Int.reduceLE, Int.reduceToNat, Int.reduceEq, readD, Nat.reduceLT, Nat.reduceEqDiff, Nat.reduceAdd, ↓reduceIte, binD, binInt, intBin, unD, convD, oLen, denseD, oFunc, oAppend, Nat.reduceMul, Nat.reduceLeDiff, fF21, tTGa, tTGb, sN, sO, loadD, isAggD, storeD, Obj.row, Obj.len, putL, Obj.put, fieldAddrD, indexAddrD, fieldD, indexD, placeOf, fillD, Nat.reduceSub, Nat.reduceLT, Nat.reduceBEq, Nat.reduceMod, Nat.reduceDiv, reduceCtorEq, ng_eq, tabL_ng, t1, t5, t8, t9, t10, iLss, Int.ofNat_lt, hlt, decide_true, Int.natCast_nonneg, and_self, Int.toNat_natCast, hnb, hhn, hsub, hs2, e2, hone, e, add1 i (by omega)] at he
      subst he
      refine ⟨_, rfl, ?_, ?_, ?_, ?_, ?_⟩ <;> simp only [Tr.get_set, Nat.reduceEqDiff, ↓reduceIte, t1, t8, t9]
    obtain ⟨tm', h', v', vs', x1, x2, x3, x4, x5⟩ := ih (i + 1) tm1 h1 v1 (vs ++ [.slice (some ⟨q0, 0, none⟩) (bytesX l[i]).length d0]) (by omega) a5 a1 a8 a9 a10 rr hpa3 kk
    exact ⟨tm', h', v', vs', by rw [e1]; exact x1, x2, x3, x4, x5⟩
theorem mb_run (tab : Tab) (hx : ∀ l, callExt (EV tab) 21 l = none) (hB : ByX tab) (h : H) (hng : tab.ng ≤ h.next) (v : Value) (l : List Ins) (hv : InS tab h v 41 l) (hn : l.length ≤ 5000) (hok : ∀ x ∈ l, chkI x = 0 ∧ x.num < 18446744073709551616) :
    ∃ v' h' vs, callR (EV tab) 21 [v, byF] h = some (v', h') ∧ Row h h' 23 1 v' l.length vs ∧ PartsR h h' vs (l.map bytesX) ∧ Kept h h' := by
  rcases hv with ⟨rfl, rfl⟩ | ⟨b, o, c, rfl, hm⟩
  · generalize he : callR _ _ _ _ = r
    rw [enter21 _ _ _ (hx _) rfl] at he
    simp only [sS, ofArgs, Int.reduceLT, Int.reduceLE, Int.reduceToNat, Int.reduceEq, readD, Nat.reduceLT, Nat.reduceEqDiff, Nat.reduceAdd, ↓reduceIte, binD, binInt, intBin, unD, convD, oLen, denseD, oFunc, oAppend, Nat.reduceMul, Nat.reduceLeDiff, fF21, tTGa, tTGb, sN, subD, loadD, isAggD, Obj.sub, Obj.get?, storeD, Obj.row, Obj.len, putL, Obj.put, fieldAddrD, indexAddrD, fieldD, indexD, placeOf, fillD, Nat.reduceSub, Nat.reduceLT, Nat.reduceBEq, Nat.reduceMod, Nat.reduceDiv, reduceCtorEq, exR_loop, ng_eq, tabL_ng, iLss, Int.cast_ofNat_Int, Int.reduceLT, decide_false, Int.lt_irrefl] at he
    subst he
    exact ⟨_, _, [], rfl, Row.nil _ _ _ _, ⟨rfl, fun j v l a => by simp at a⟩, Kept.refl h⟩
  · have key : ∀ tm h1, (h1 = h ∧ tm.get 5 = some (.slice none 0 0) ∧ tm.get 1 = some byF ∧ tm.get 8 = some (.slice (some ⟨b, o, none⟩) l.length c) ∧ tm.get 9 = some (.int .i64 l.length) ∧ tm.get 10 = some (.int .i64 0)) → ∃ x s', exR (EV tab) mbLoop ⟨false, 22, tm, h1⟩ = some (x, s') ∧
        (x = .exit 0 ∧ ∃ tm' h' v' vs, s' = ⟨false, 22, tm', h'⟩ ∧ tm'.get 5 = some v' ∧ Row h h' 23 1 v' l.length vs ∧ PartsR h h' vs (l.map bytesX) ∧ Kept h h') := fun tm h1 p => by
      obtain ⟨rfl, p3, p1, p6, p7, p8⟩ := p
      obtain ⟨tm', h', v', vs, x1, x2, x3, x4, x5⟩ := mb_loop tab hB h1 hng b o c l hm hn hok l.length 0 tm h1 (.slice none 0 0) [] (by omega) p3 p1 p6 p7 p8 (Row.nil _ _ _ _) ⟨rfl, fun j v l a => by simp at a⟩ (Kept.refl h1)
      exact ⟨_, _, x1, rfl, tm', h', v', vs, rfl, x2, x3, x4, x5⟩
    generalize he : callR _ _ _ _ = r
    rw [enter21 _ _ _ (hx _) rfl] at he
    simp only [sS, ofArgs, Int.reduceLT, Int.reduceLE, Int.reduceToNat, Int.reduceEq, readD, Nat.reduceLT, Nat.reduceEqDiff, Nat.reduceAdd, ↓reduceIte, binD, binInt, intBin, unD, convD, oLen, denseD, oFunc, oAppend, Nat.reduceMul, Nat.reduceLeDiff, b21, p21_0, r21_0, p21_1, r21_1, p21_2, r21_2, tTGa, tTGb] at he
    obtain ⟨x1, s1, ⟨rfl, tm', h', v', vs, rfl, x2, x3, x4, x5⟩, he⟩ := use_run key (fun o => finish (EV tab) [ResultVar.tmp 4] (andThen (unblock 0 o) (exR (EV tab) (.seq rg21_7 .ret)))) he (by
      refine ⟨rfl, ?_, ?_, ?_, ?_, ?_⟩ <;> simp only [Tr.get_set, Nat.reduceEqDiff, ↓reduceIte])
    simp only [sS, ofArgs, Int.reduceLT, Int.reduceLE, Int.reduceToNat, Int.reduceEq, readD, Nat.reduceLT, Nat.reduceEqDiff, Nat.reduceAdd, ↓reduceIte, binD, binInt, intBin, unD, convD, oLen, denseD, oFunc, oAppend, Nat.reduceMul, Nat.reduceLeDiff, fF21, tTGa, tTGb, x2] at he
    subst he
    exact ⟨v', h', vs, rfl, x3, x4, x5⟩
/-! ### slices.Grow of nothing -/
theorem op_cap {E : Env} {cl : _} {yl : _} {h : H} {tm : Tr Value} {os : Array Operand} {ts : Array TypeId} : opD E cl yl h tm (.call ⟨.builtin .cap, os, ts⟩) = same h (oCap E tm ts.toList os) := rfl
theorem repl_len (n : Nat) : ∀ k, (repl [Value.int .u8 (n : Int)] k).length = k
  | 0 => rfl
  | k + 1 => by rw [repl, List.length_append, repl_len n k]; simp; omega
theorem repl_one : ∀ k, (repl [Value.int .u8 0] k).all isOne = true
  | 0 => rfl
  | k + 1 => by rw [repl, List.all_append, repl_one k]; rfl
/-- What Grow makes of nothing: no bytes, room for n. -/
def Gr (h h' : H) (v : Value) : Prop := v = .slice none 0 0 ∨ ∃ b L, v = .slice (some ⟨b, 0, none⟩) 0 0 ∧ h.next ≤ b ∧ b < h'.next ∧ h'.get b = some (.cells 5 1 L)
theorem grow_run (tab : Tab) (hx : ∀ l, callExt (EV tab) 34 l = none) (h : H) (hng : tab.ng ≤ h.next) (n : Nat) (hn : n ≤ 1000000) :
    ∃ v' h', callR (EV tab) 34 [.slice none 0 0, .int .i64 n] h = some (v', h') ∧ Gr h h' v' ∧ Kept h h' := by
  have d0 : decide ((n : Int) < 0) = false := decide_eq_false (by omega)
  have s0 : iSub .i64 0 0 = some (.int .i64 0) := rfl
  have s1 : iSub .i64 (n : Int) 0 = some (.int .i64 n) := by unfold iSub; rw [Int.sub_zero, IntWalk.i64_in _ (by omega)]
  by_cases q : n = 0
  · have d1 : decide ((0 : Int) < (n : Int)) = false := decide_eq_false (by omega)
    generalize he : callR _ _ _ _ = r
    rw [enter34 _ _ _ (hx _) rfl] at he
    simp only [sS, ofArgs, Int.reduceLT, Int.reduceLE, Int.reduceToNat, Int.reduceEq, readD, Nat.reduceLT, Nat.reduceEqDiff, Nat.reduceAdd, ↓reduceIte, binD, binInt, intBin, unD, convD, oLen, denseD, oFunc, oAppend, Nat.reduceMul, Nat.reduceLeDiff, fF34, tTGa, tTGb, sN, subD, loadD, isAggD, Obj.sub, Obj.get?, storeD, Obj.row, Obj.len, putL, Obj.put, fieldAddrD, indexAddrD, fieldD, indexD, placeOf, fillD, Nat.reduceSub, Nat.reduceLT, Nat.reduceBEq, Nat.reduceMod, Nat.reduceDiv, reduceCtorEq, ng_eq, tabL_ng, iLss, iGtr, gt_iff_lt, d0, d1, op_cap, oCap, capD, s0, s1, Int.cast_ofNat_Int] at he
    subst he
    exact ⟨_, _, rfl, .inl rfl, Kept.refl h⟩
  · have d1 : decide ((0 : Int) < (n : Int)) = true := decide_eq_true (by omega)
    have hap : appendD (EV tab) h 23 true (.slice none 0 0) (.int .i64 n) = some (.slice (some ⟨h.next, 0, none⟩) n 0, h.push (.cells 5 1 (repl [Value.int .u8 0] n))) := by
      have hl : (repl [Value.int .u8 0] n).length = n := repl_len 0 n
      have hq : 0 ≤ (n : Int) ∧ (n : Int) ≤ 1000000 := by omega
      have hm : Nat.ble n 1000000 = true := Nat.ble_eq_true_of_le hn
      simp only [appendD, ti23, ti5, newD, if_true, if_pos hq, Int.toNat_natCast, repl_one, hl, hm, Nat.mul_one, beq_self_eq_true, Bool.and_self, Bool.not_true, Bool.false_eq_true, if_false, if_neg q]
      rfl
    have hnn : ¬ h.next < tab.ng := by omega
    have hs1 : ∀ h, sliceD (EV tab) h 23 (.slice none 0 0) none (some (.int .i64 0)) none = some (.slice none 0 0) := fun h => by
      simp only [sliceD, ti23, ti5, sliceOf, sliceNil, boundO, boundD]; rfl
    have hs2 : sliceD (EV tab) (h.push (.cells 5 1 (repl [Value.int .u8 0] n))) 23 (.slice (some ⟨h.next, 0, none⟩) n 0) none (some (.int .i64 0)) none = some (.slice (some ⟨h.next, 0, none⟩) 0 0) := by
      have h2 : (0 : Int) ≤ 0 ∧ (0 : Int) ≤ (n : Int) := by omega
      simp only [sliceD, ti23, ti5, sliceOf, ng_eq, tabL_ng, if_neg hnn, H.get_push_self, Obj.row, if_true, sliceRow]
      have hb : boundD (.int .i64 0) n = some 0 := by simp only [boundD]; rw [if_pos h2]; rfl
      simp [boundO, hb]
    generalize he : callR _ _ _ _ = r
    rw [enter34 _ _ _ (hx _) rfl] at he
    simp only [sS, ofArgs, Int.reduceLT, Int.reduceLE, Int.reduceToNat, Int.reduceEq, readD, Nat.reduceLT, Nat.reduceEqDiff, Nat.reduceAdd, ↓reduceIte, binD, binInt, intBin, unD, convD, oLen, denseD, oFunc, oAppend, Nat.reduceMul, Nat.reduceLeDiff, fF34, tTGa, tTGb, sN, subD, loadD, isAggD, Obj.sub, Obj.get?, storeD, Obj.row, Obj.len, putL, Obj.put, fieldAddrD, indexAddrD, fieldD, indexD, placeOf, fillD, Nat.reduceSub, Nat.reduceLT, Nat.reduceBEq, Nat.reduceMod, Nat.reduceDiv, reduceCtorEq, ng_eq, tabL_ng, iLss, iGtr, gt_iff_lt, d0, d1, op_cap, oCap, capD, s0, s1, Int.cast_ofNat_Int, oSlice, optO, hs1, hs2, hap] at he
    subst he
    exact ⟨_, _, rfl, .inr ⟨h.next, _, rfl, Nat.le_refl _, Nat.lt_succ_self _, H.get_push_self _ _⟩, (Kept.refl h).push _⟩
/-! ### slices.Concat -/
def lenS (bl : List (List UInt8)) : Nat := (bl.map List.length).sum
theorem lenS_drop (bl : List (List UInt8)) (i : Nat) (hi : i < bl.length) : lenS (bl.drop i) = bl[i].length + lenS (bl.drop (i + 1)) := by
  have hd : bl.drop i = bl[i] :: bl.drop (i + 1) := (List.getElem_cons_drop hi).symm
  rw [hd]
  show (bl[i].length :: (bl.drop (i + 1)).map List.length).sum = _
  rw [List.sum_cons]; rfl
theorem lenS_flat (bl : List (List UInt8)) : bl.flatten.length = lenS bl := by simp [lenS, List.length_flatten]
structure CoP (N : Nat) (h : H) (v : Value) (vs : List Value) (bl : List (List UInt8)) (b c : Nat) : Prop where
  v : v = .slice (some ⟨b, 0, none⟩) bl.length c
  b1 : N ≤ b
  b2 : b < h.next
  g : h.get b = some (.cells 23 1 vs)
  l : vs.length = bl.length
  p : ∀ (j : Nat) (v : Value) (l : List UInt8), vs[j]? = some v → bl[j]? = some l → ∃ q d, v = .slice (some ⟨q, 0, none⟩) l.length d ∧ N ≤ q ∧ q < h.next ∧ h.get q = some (.cells 5 1 (bs l))
theorem CoP.kept {N : Nat} {h h' : H} {v : Value} {vs : List Value} {bl : List (List UInt8)} {b c : Nat} (s : CoP N h v vs bl b c) (k : Kept h h') : CoP N h' v vs bl b c := by
  obtain ⟨a1, a2, a3, a4, a5, a6⟩ := s
  refine ⟨a1, a2, Nat.lt_of_lt_of_le a3 k.le, by rw [k.get _ a3]; exact a4, a5, fun j v l x y => ?_⟩
  obtain ⟨q, d, r1, r2, r3, r4⟩ := a6 j v l x y
  exact ⟨q, d, r1, r2, Nat.lt_of_lt_of_le r3 k.le, by rw [k.get _ r3]; exact r4⟩
theorem CoP.at {N : Nat} {h : H} {v : Value} {vs : List Value} {bl : List (List UInt8)} {b c : Nat} (s : CoP N h v vs bl b c) (i : Nat) (hi : i < bl.length) :
    ∃ q d, Obj.sub (.cells 23 1 vs) i 1 = some [.slice (some ⟨q, 0, none⟩) bl[i].length d] ∧ N ≤ q ∧ q < h.next ∧ h.get q = some (.cells 5 1 (bs bl[i])) := by
  have hv : i < vs.length := by rw [s.l]; exact hi
  obtain ⟨q, d, r1, r2, r3, r4⟩ := s.p i vs[i] bl[i] (by simp) (by simp)
  refine ⟨q, d, ?_, r2, r3, r4⟩
  rw [← r1]
  refine sub_get [vs[i]] 23 1 i vs fun j hj => ?_
  simp only [List.length_cons, List.length_nil] at hj
  have : j = 0 := by omega
  subst this
  simp
noncomputable def coA : Code := .loop (.seq rg20_3 (.seq (.cond (Operand.tmp 12) .skip (Code.exit 0)) (.seq (.block 1 (.seq rg20_4 (.seq rg20_5 (.seq rg20_6 (.cond (Operand.tmp 20) rg20_7 .skip))))) rg20_8)))
noncomputable def coB : Code := .loop (.seq rg20_11 (.seq (.cond (Operand.tmp 28) .skip (Code.exit 2)) (.seq (.block 3 (.seq rg20_12 rg20_13)) rg20_14)))
theorem coA_loop (tab : Tab) (h : H) (v : Value) (vs : List Value) (bl : List (List UInt8)) (b c : Nat) (s : CoP tab.ng h v vs bl b c) (hn : bl.length ≤ 5000) (hs : lenS bl ≤ 900000) :
    ∀ (k i a : Nat) (tm : Tr Value), i + k = bl.length → a + lenS (bl.drop i) = lenS bl → tm.get 0 = some v → tm.get 3 = some (.int .i64 a) → tm.get 9 = some v → tm.get 10 = some (.int .i64 bl.length) → tm.get 11 = some (.int .i64 i) →
    ∃ tm', exR (EV tab) coA ⟨false, 36, tm, h⟩ = some (.exit 0, ⟨false, 36, tm', h⟩) ∧ tm'.get 0 = some v ∧ tm'.get 3 = some (.int .i64 (lenS bl)) := by
  intro k
  have hv := s.v
  have hb : ¬ b < tab.ng := by have := s.b1; omega
  have hg := s.g
  subst hv
  induction k with
  | zero =>
    intro i a tm hk ha t0 t3 t9 t10 t11
    have hlt : ¬ i < bl.length := by omega
    rw [List.drop_eq_nil_of_le (by omega)] at ha
    have ha' : a = lenS bl := by simpa [lenS] using ha
    subst ha'
    generalize he : exR (EV tab) coA ⟨false, 36, tm, h⟩ = r
    rw [coA, exR_loop] at he
    simp only [sS, ofArgs, Int.reduceLT, Int.reduceLE, Int.reduceToNat, Int.reduceEq, readD, Nat.reduceLT, Nat.reduceEqDiff, Nat.reduceAdd, ↓reduceIte, binD, binInt, intBin, unD, convD, oLen, denseD, oFunc, oAppend, Nat.reduceMul, Nat.reduceLeDiff, fF20, tTGa, tTGb, t10, t11, iLss, Int.ofNat_lt, hlt, decide_false] at he
    subst he
    exact ⟨_, rfl, by simp only [Tr.get_set, Nat.reduceEqDiff, ↓reduceIte, t0], by simp only [Tr.get_set, Nat.reduceEqDiff, ↓reduceIte, t3]⟩
  | succ k ih =>
    intro i a tm hk ha t0 t3 t9 t10 t11
    have hlt : i < bl.length := by omega
    obtain ⟨q, d, hsub, -, -, -⟩ := s.at i hlt
    rw [lenS_drop bl i hlt] at ha
    have m1 : iAdd .i64 (a : Int) (bl[i].length : Nat) = some (.int .i64 ((a + bl[i].length : Nat) : Int)) := by
      unfold iAdd; rw [IntWalk.i64_in _ (by omega)]; rfl
    have d1 : decide (((a + bl[i].length : Nat) : Int) < 0) = false := decide_eq_false (by omega)
    obtain ⟨tm1, e1, a0, a3, a9, a10, a11⟩ : ∃ tm1, exR (EV tab) coA ⟨false, 36, tm, h⟩ = exR (EV tab) coA ⟨false, 36, tm1, h⟩ ∧ tm1.get 0 = some (.slice (some ⟨b, 0, none⟩) bl.length c) ∧ tm1.get 3 = some (.int .i64 ((a + bl[i].length : Nat) : Int)) ∧ tm1.get 9 = some (.slice (some ⟨b, 0, none⟩) bl.length c) ∧ tm1.get 10 = some (.int .i64 bl.length) ∧ tm1.get 11 = some (.int .i64 ((i + 1 : Nat) : Int)) := by
      generalize he : exR (EV tab) coA ⟨false, 36, tm, h⟩ = r
      rw [coA, exR_loop] at he
      simp only [sS, ofArgs, Int.reduceLT, Int.reduceLE, Int.reduceToNat, Int.reduceEq, readD, Nat.reduceLT, Nat.reduceEqDiff, Nat.reduceAdd, ↓reduceIte, binD, binInt, intBin, unD, convD, oLen, denseD, oFunc, oAppend, Nat.reduceMul, Nat.reduceLeDiff, fF20, tTGa, tTGb, sN, subD, loadD, isAggD, storeD, Obj.row, Obj.len, putL, Obj.put, fieldAddrD, indexAddrD, fieldD, indexD, placeOf, fillD, Nat.reduceSub, Nat.reduceLT, Nat.reduceBEq, Nat.reduceMod, Nat.reduceDiv, reduceCtorEq, ng_eq, tabL_ng, t3, t9, t10, t11, iLss, Int.ofNat_lt, hlt, decide_true, Int.natCast_nonneg, and_self, Int.toNat_natCast, Nat.mul_one, hb, hg, hsub, m1, d1, add1 i (by omega)] at he
      subst he
      refine ⟨_, rfl, ?_, ?_, ?_, ?_, ?_⟩ <;> simp only [Tr.get_set, Nat.reduceEqDiff, ↓reduceIte, t0, t9, t10]
    obtain ⟨tm', x1, x2, x3⟩ := ih (i + 1) _ tm1 (by omega) (by omega) a0 a3 a9 a10 a11
    exact ⟨tm', by rw [e1]; exact x1, x2, x3⟩
/-- Bytes under way behind Grow. -/
def Gw (h1 h : H) (v : Value) (l : List UInt8) : Prop := Row h1 h 5 1 v l.length (bs l) ∨ (l = [] ∧ Gr h1 h v)
theorem gw_app (tab : Tab) {h1 h : H} (hng : tab.ng ≤ h1.next) {v : Value} {l : List UInt8} (o : Gw h1 h v l) (hk : Kept h1 h) (hl : l.length ≤ 1000000) {q d : Nat} {l2 : List UInt8} (hq : tab.ng ≤ q) (hg : h.get q = some (.cells 5 1 (bs l2))) (hl2 : l2.length ≤ 1000000) :
    ∃ v' h', appendD (EV tab) h 23 false v (.slice (some ⟨q, 0, none⟩) l2.length d) = some (v', h') ∧ Row h1 h' 5 1 v' (l ++ l2).length (bs (l ++ l2)) ∧ Kept h1 h' := by
  have hnw := new_bytes tab h l2 l2.length q d hq hg rfl
  have row : Row h1 h 5 1 v l.length (bs l) → _ := fun r => append_row (E := EV tab) (t := 23) (ti23 tab) rfl (ti5 tab) rfl (by rw [bt_eq]; show (5 : Nat) ≠ 86; decide) hng r hk (hnw _) (bs_one _) hl2 hl (by rw [bs_length, Nat.mul_one])
  have fin : Row h1 h 5 1 v l.length (bs l) → ∃ v' h', appendD (EV tab) h 23 false v (.slice (some ⟨q, 0, none⟩) l2.length d) = some (v', h') ∧ Row h1 h' 5 1 v' (l ++ l2).length (bs (l ++ l2)) ∧ Kept h1 h' := fun r => by
    obtain ⟨v', h', e, rr, kk⟩ := row r
    exact ⟨v', h', e, by rw [bs_append, List.length_append]; exact rr, kk⟩
  rcases o with r | ⟨rfl, rfl | ⟨b, L, rfl, g1, g2, g3⟩⟩
  · exact fin r
  · exact fin (Row.nil _ _ _ _)
  · have hc : (!((bs l2).all isOne && Nat.ble l2.length 1000000 && Nat.ble 1 1000 && Nat.ble 1 1 && (bs l2).length == l2.length * 1)) = false := by
      rw [bs_one, bs_length, Nat.mul_one, Nat.ble_eq_true_of_le hl2]; simp
    have hb : (decide (b < (EV tab).ng) || !(Nat.ble 0 1000000)) = false := by
      have : ¬ b < (EV tab).ng := by rw [ng_eq]; omega
      simp [this]
    refine ⟨.slice (some ⟨h.next, 0, none⟩) (0 + l2.length) 0, (h.kill b).push (.cells 5 1 ([] ++ bs l2)), ?_, .inr ⟨h.next, by rw [Nat.zero_add]; rfl, hk.le, by rw [H.next_push, H.next_kill]; exact Nat.lt_succ_self _, H.get_push_self (h.kill b) _, by simp [bs_length]⟩, (hk.kill g1).push _⟩
    have h5 : (5 : Nat) ≠ (EV tab).bt := by rw [bt_eq]; show (5 : Nat) ≠ 86; decide
    have hs : Obj.sub (.cells 5 1 L) 0 0 = some [] := rfl
    unfold appendD
    simp only [ti23, ti5, hnw, hc, Bool.false_eq_true, if_false, hb, g3, Obj.row, Nat.zero_mul, hs, if_true, ne_eq, not_true_eq_false, or_self, if_neg h5]
theorem coB_loop (tab : Tab) (h1 : H) (hng : tab.ng ≤ h1.next) (v : Value) (vs : List Value) (bl : List (List UInt8)) (b c : Nat) (s : CoP tab.ng h1 v vs bl b c) (hn : bl.length ≤ 5000) (hs : lenS bl ≤ 900000) :
    ∀ (k i : Nat) (tm : Tr Value) (h : H) (w : Value) (l : List UInt8), i + k = bl.length → l.length + lenS (bl.drop i) ≤ 900000 → tm.get 6 = some w → tm.get 25 = some v → tm.get 26 = some (.int .i64 bl.length) → tm.get 27 = some (.int .i64 i) → Gw h1 h w l → Kept h1 h →
    ∃ tm' h' w', exR (EV tab) coB ⟨false, 36, tm, h⟩ = some (.exit 2, ⟨false, 36, tm', h'⟩) ∧ tm'.get 6 = some w' ∧ Gw h1 h' w' (l ++ (bl.drop i).flatten) ∧ Kept h1 h' := by
  intro k
  have hv := s.v
  have hb : ¬ b < tab.ng := by have := s.b1; omega
  subst hv
  induction k with
  | zero =>
    intro i tm h w l hk ha t6 t25 t26 t27 ho hkp
    have hlt : ¬ i < bl.length := by omega
    generalize he : exR (EV tab) coB ⟨false, 36, tm, h⟩ = r
    rw [coB, exR_loop] at he
    simp only [sS, ofArgs, Int.reduceLT, Int.reduceLE, Int.reduceToNat, Int.reduceEq, readD, Nat.reduceLT, Nat.reduceEqDiff, Nat.reduceAdd, ↓reduceIte, binD, binInt, intBin, unD, convD, oLen, denseD, oFunc, oAppend, Nat.reduceMul, Nat.reduceLeDiff, fF20, tTGa, tTGb, t26, t27, iLss, Int.ofNat_lt, hlt, decide_false] at he
    subst he
    refine ⟨_, h, w, rfl, by simp only [Tr.get_set, Nat.reduceEqDiff, ↓reduceIte, t6], ?_, hkp⟩
    rw [List.drop_eq_nil_of_le (by omega)]
    simpa using ho
  | succ k ih =>
    intro i tm h w l hk ha t6 t25 t26 t27 ho hkp
    have hlt : i < bl.length := by omega
    have hg := (s.kept hkp).g
    obtain ⟨q, d, hsub, q1, q2, q3⟩ := (s.kept hkp).at i hlt
    rw [lenS_drop bl i hlt] at ha
    obtain ⟨w1, h2, e, r, kk⟩ := gw_app tab hng ho hkp (by omega) (d := d) q1 q3 (by omega)
    obtain ⟨tm1, e1, a6, a25, a26, a27⟩ : ∃ tm1, exR (EV tab) coB ⟨false, 36, tm, h⟩ = exR (EV tab) coB ⟨false, 36, tm1, h2⟩ ∧ tm1.get 6 = some w1 ∧ tm1.get 25 = some (.slice (some ⟨b, 0, none⟩) bl.length c) ∧ tm1.get 26 = some (.int .i64 bl.length) ∧ tm1.get 27 = some (.int .i64 ((i + 1 : Nat) : Int)) := by
      generalize he : exR (EV tab) coB ⟨false, 36, tm, h⟩ = r
      rw [coB, exR_loop] at he
      simp only [sS, ofArgs, Int.reduceLT, Int.reduceLE, Int.reduceToNat, Int.reduceEq, readD, Nat.reduceLT, Nat.reduceEqDiff, Nat.reduceAdd, ↓reduceIte, binD, binInt, intBin, unD, convD, oLen, denseD, oFunc, oAppend, Nat.reduceMul, Nat.reduceLeDiff, fF20, tTGa, tTGb, sN, subD, loadD, isAggD, storeD, Obj.row, Obj.len, putL, Obj.put, fieldAddrD, indexAddrD, fieldD, indexD, placeOf, fillD, Nat.reduceSub, Nat.reduceLT, Nat.reduceBEq, Nat.reduceMod, Nat.reduceDiv, reduceCtorEq, ng_eq, tabL_ng, t6, t25, t26, t27, iLss, Int.ofNat_lt, hlt, decide_true, Int.natCast_nonneg, and_self, Int.toNat_natCast, Nat.mul_one, hb, hg, hsub, e, add1 i (by omega)] at he
      subst he
      refine ⟨_, rfl, ?_, ?_, ?_, ?_⟩ <;> simp only [Tr.get_set, Nat.reduceEqDiff, ↓reduceIte, t25, t26]
    obtain ⟨tm', h', w', x1, x2, x3, x4⟩ := ih (i + 1) tm1 h2 w1 (l ++ bl[i]) (by omega) (by rw [List.length_append]; omega) a6 a25 a26 a27 (.inl r) kk
    refine ⟨tm', h', w', by rw [e1]; exact x1, x2, ?_, x4⟩
    rw [← List.getElem_cons_drop hlt, List.flatten_cons, ← List.append_assoc]
    exact x3
/-! ### slices.Concat, joined -/
theorem conc_nil (tab : Tab) (hx : ∀ l, callExt (EV tab) 20 l = none) (hxg : ∀ l, callExt (EV tab) 34 l = none) (h : H) (hng : tab.ng ≤ h.next) : ∃ v' h', callR (EV tab) 20 [.slice none 0 0] h = some (v', h') ∧ Gr h h' v' ∧ Kept h h' := by
  obtain ⟨w, h1, e, g, k⟩ := grow_run tab hxg h hng 0 (by decide)
  simp only [Int.cast_ofNat_Int] at e
  generalize he : callR _ _ _ _ = r
  rw [enter20 _ _ _ (hx _) rfl] at he
  simp only [sS, ofArgs, Int.reduceLT, Int.reduceLE, Int.reduceToNat, Int.reduceEq, readD, Nat.reduceLT, Nat.reduceEqDiff, Nat.reduceAdd, ↓reduceIte, binD, binInt, intBin, unD, convD, oLen, denseD, oFunc, oAppend, Nat.reduceMul, Nat.reduceLeDiff, fF20, tTGa, tTGb, sN, subD, loadD, isAggD, Obj.sub, Obj.get?, storeD, Obj.row, Obj.len, putL, Obj.put, fieldAddrD, indexAddrD, fieldD, indexD, placeOf, fillD, Nat.reduceSub, Nat.reduceLT, Nat.reduceBEq, Nat.reduceMod, Nat.reduceDiv, reduceCtorEq, exR_loop, ng_eq, tabL_ng, iLss, Int.cast_ofNat_Int, Int.reduceLT, decide_false, Int.lt_irrefl, e] at he
  subst he
  exact ⟨w, h1, rfl, g, k⟩
theorem conc_run (tab : Tab) (hx : ∀ l, callExt (EV tab) 20 l = none) (hxg : ∀ l, callExt (EV tab) 34 l = none) (h : H) (hng : tab.ng ≤ h.next) (v : Value) (vs : List Value) (bl : List (List UInt8)) (b c : Nat) (s : CoP tab.ng h v vs bl b c) (hn : bl.length ≤ 5000) (hs : lenS bl ≤ 900000) (hne : bl.flatten ≠ []) :
    ∃ v' h', callR (EV tab) 20 [v] h = some (v', h') ∧ Row h h' 5 1 v' bl.flatten.length (bs bl.flatten) ∧ Kept h h' := by
  have hv := s.v
  obtain ⟨w, h1, e, g, k⟩ := grow_run tab hxg h hng (lenS bl) (by omega)
  have keyA : ∀ tm h0, (h0 = h ∧ tm.get 0 = some v ∧ tm.get 3 = some (.int .i64 0) ∧ tm.get 9 = some v ∧ tm.get 10 = some (.int .i64 bl.length) ∧ tm.get 11 = some (.int .i64 0)) → ∃ x s', exR (EV tab) coA ⟨false, 36, tm, h0⟩ = some (x, s') ∧
      (x = .exit 0 ∧ ∃ tm', s' = ⟨false, 36, tm', h⟩ ∧ tm'.get 0 = some v ∧ tm'.get 3 = some (.int .i64 (lenS bl))) := fun tm h0 p => by
    obtain ⟨rfl, p0, p3, p9, p10, p11⟩ := p
    obtain ⟨tm', x1, x2, x3⟩ := coA_loop tab h0 v vs bl b c s hn hs bl.length 0 0 tm (by omega) (by simp) p0 p3 p9 p10 p11
    exact ⟨_, _, x1, rfl, tm', rfl, x2, x3⟩
  have keyB : ∀ tm h0, (h0 = h1 ∧ tm.get 6 = some w ∧ tm.get 25 = some v ∧ tm.get 26 = some (.int .i64 bl.length) ∧ tm.get 27 = some (.int .i64 0)) → ∃ x s', exR (EV tab) coB ⟨false, 36, tm, h0⟩ = some (x, s') ∧
      (x = .exit 2 ∧ ∃ tm' h' w', s' = ⟨false, 36, tm', h'⟩ ∧ tm'.get 6 = some w' ∧ Row h h' 5 1 w' bl.flatten.length (bs bl.flatten) ∧ Kept h h') := fun tm h0 p => by
    obtain ⟨rfl, p6, p25, p26, p27⟩ := p
    obtain ⟨tm', h', w', x1, x2, x3, x4⟩ := coB_loop tab h hng v vs bl b c s hn hs bl.length 0 tm h0 w [] (by omega) (by simpa using hs) p6 p25 p26 p27 (.inr ⟨rfl, g⟩) k
    rw [List.drop_zero, List.nil_append] at x3
    rcases x3 with x3 | ⟨x3, _⟩
    · exact ⟨_, _, x1, rfl, tm', h', w', rfl, x2, x3, x4⟩
    · exact absurd x3 hne
  subst hv
  generalize he : callR _ _ _ _ = r
  rw [enter20 _ _ _ (hx _) rfl] at he
  simp only [sS, ofArgs, Int.reduceLT, Int.reduceLE, Int.reduceToNat, Int.reduceEq, readD, Nat.reduceLT, Nat.reduceEqDiff, Nat.reduceAdd, ↓reduceIte, binD, binInt, intBin, unD, convD, oLen, denseD, oFunc, oAppend, Nat.reduceMul, Nat.reduceLeDiff, b20, p20_0, r20_0, p20_1, r20_1, p20_2, r20_2, tTGa, tTGb] at he
  obtain ⟨x1, s1, ⟨rfl, tm1, rfl, y0, y3⟩, he⟩ := use_run keyA (fun o => finish (EV tab) [ResultVar.tmp 2] (andThen (unblock 0 o) (exR (EV tab) (.seq rg20_9 (.seq (.seq rg20_10 (.block 2 coB)) (.seq rg20_15 .ret)))))) he (by
    refine ⟨rfl, ?_, ?_, ?_, ?_, ?_⟩ <;> simp only [Tr.get_set, Nat.reduceEqDiff, ↓reduceIte])
  simp only [sS, ofArgs, Int.reduceLT, Int.reduceLE, Int.reduceToNat, Int.reduceEq, readD, Nat.reduceLT, Nat.reduceEqDiff, Nat.reduceAdd, ↓reduceIte, binD, binInt, intBin, unD, convD, oLen, denseD, oFunc, oAppend, Nat.reduceMul, Nat.reduceLeDiff, p20_9, r20_9, p20_10, r20_10, tTGa, tTGb, y0, y3, e] at he
  obtain ⟨x2, s2, ⟨rfl, tm2, h2, w2, rfl, z6, z7, z8⟩, he⟩ := use_run keyB (fun o => finish (EV tab) [ResultVar.tmp 2] (andThen (unblock 2 o) (exR (EV tab) (.seq rg20_15 .ret)))) he (by
    refine ⟨rfl, ?_, ?_, ?_, ?_⟩ <;> simp only [Tr.get_set, Nat.reduceEqDiff, ↓reduceIte])
  simp only [sS, ofArgs, Int.reduceLT, Int.reduceLE, Int.reduceToNat, Int.reduceEq, readD, Nat.reduceLT, Nat.reduceEqDiff, Nat.reduceAdd, ↓reduceIte, binD, binInt, intBin, unD, convD, oLen, denseD, oFunc, oAppend, Nat.reduceMul, Nat.reduceLeDiff, fF20, tTGa, tTGb, z6] at he
  subst he
  exact ⟨w2, h2, rfl, z7, z8⟩
/-! ### Encode -/
theorem grow0 (tab : Tab) (hx : ∀ l, callExt (EV tab) 34 l = none) (h : H) : callR (EV tab) 34 [.slice none 0 0, .int .i64 0] h = some (.slice none 0 0, h) := by
  have s0 : iSub .i64 0 0 = some (.int .i64 0) := rfl
  generalize he : callR _ _ _ _ = r
  rw [enter34 _ _ _ (hx _) rfl] at he
  simp only [sS, ofArgs, Int.reduceLT, Int.reduceLE, Int.reduceToNat, Int.reduceEq, readD, Nat.reduceLT, Nat.reduceEqDiff, Nat.reduceAdd, ↓reduceIte, binD, binInt, intBin, unD, convD, oLen, denseD, oFunc, oAppend, Nat.reduceMul, Nat.reduceLeDiff, fF34, tTGa, tTGb, sN, subD, loadD, isAggD, Obj.sub, Obj.get?, storeD, Obj.row, Obj.len, putL, Obj.put, fieldAddrD, indexAddrD, fieldD, indexD, placeOf, fillD, Nat.reduceSub, Nat.reduceLT, Nat.reduceBEq, Nat.reduceMod, Nat.reduceDiv, reduceCtorEq, ng_eq, tabL_ng, iLss, iGtr, gt_iff_lt, Int.lt_irrefl, decide_false, op_cap, oCap, capD, s0, Int.cast_ofNat_Int] at he
  exact he.symm
theorem conc0 (tab : Tab) (hx : ∀ l, callExt (EV tab) 20 l = none) (hxg : ∀ l, callExt (EV tab) 34 l = none) (h : H) : callR (EV tab) 20 [.slice none 0 0] h = some (.slice none 0 0, h) := by
  have e := fun h => grow0 tab hxg h
  generalize he : callR _ _ _ _ = r
  rw [enter20 _ _ _ (hx _) rfl] at he
  simp only [sS, ofArgs, Int.reduceLT, Int.reduceLE, Int.reduceToNat, Int.reduceEq, readD, Nat.reduceLT, Nat.reduceEqDiff, Nat.reduceAdd, ↓reduceIte, binD, binInt, intBin, unD, convD, oLen, denseD, oFunc, oAppend, Nat.reduceMul, Nat.reduceLeDiff, fF20, tTGa, tTGb, sN, subD, loadD, isAggD, Obj.sub, Obj.get?, storeD, Obj.row, Obj.len, putL, Obj.put, fieldAddrD, indexAddrD, fieldD, indexD, placeOf, fillD, Nat.reduceSub, Nat.reduceLT, Nat.reduceBEq, Nat.reduceMod, Nat.reduceDiv, reduceCtorEq, exR_loop, ng_eq, tabL_ng, iLss, Int.cast_ofNat_Int, Int.reduceLT, decide_false, Int.lt_irrefl, e] at he
  exact he.symm
theorem conc0b (tab : Tab) (hx : ∀ l, callExt (EV tab) 20 l = none) (hxg : ∀ l, callExt (EV tab) 34 l = none) (h : H) (b c : Nat) : callR (EV tab) 20 [.slice (some ⟨b, 0, none⟩) 0 c] h = some (.slice none 0 0, h) := by
  have e := fun h => grow0 tab hxg h
  generalize he : callR _ _ _ _ = r
  rw [enter20 _ _ _ (hx _) rfl] at he
  simp only [sS, ofArgs, Int.reduceLT, Int.reduceLE, Int.reduceToNat, Int.reduceEq, readD, Nat.reduceLT, Nat.reduceEqDiff, Nat.reduceAdd, ↓reduceIte, binD, binInt, intBin, unD, convD, oLen, denseD, oFunc, oAppend, Nat.reduceMul, Nat.reduceLeDiff, fF20, tTGa, tTGb, sN, subD, loadD, isAggD, Obj.sub, Obj.get?, storeD, Obj.row, Obj.len, putL, Obj.put, fieldAddrD, indexAddrD, fieldD, indexD, placeOf, fillD, Nat.reduceSub, Nat.reduceLT, Nat.reduceBEq, Nat.reduceMod, Nat.reduceDiv, reduceCtorEq, exR_loop, ng_eq, tabL_ng, iLss, Int.cast_ofNat_Int, Int.reduceLT, decide_false, Int.lt_irrefl, e] at he
  exact he.symm
def encL (l : List Ins) : List UInt8 := (l.map bytesX).flatten
theorem bytesX_len (x : Ins) (hx : chkI x = 0) (hn : x.num < 18446744073709551616) : (bytesX x).length ≤ 100 ∧ bytesX x ≠ [] := by
  refine ⟨?_, by simp [bytesX, bytesL]⟩
  obtain ⟨k, r, hk0, hk, hk2, -, -, -, -, -, hi, hs, hp⟩ := check_ok hx (by omega)
  have hu := List.all_eq_true.1 kindT_uses r (List.mem_of_getElem? hk)
  simp only [Bool.and_eq_true, decide_eq_true_eq] at hu
  unfold bytesX usesAt
  rw [hk2]
  have hf : ∀ us : List UInt8, (opsL us x.t x.u x.num x.imm x.size).length ≤ 10 * us.length := fun us => by
    induction us with
    | nil => simp [opsL]
    | cons c us ih =>
      have := (opB_len c.toNat x.t x.u x.num x.imm x.size hn hi hs).1
      have e : opsL (c :: us) x.t x.u x.num x.imm x.size = opB c.toNat x.t x.u x.num x.imm x.size ++ opsL us x.t x.u x.num x.imm x.size := rfl
      rw [e, List.length_append, List.length_cons]; omega
  have := hf r.uses
  show (bytesL x.op.toNat r.uses x.t x.u x.num x.imm x.size).length ≤ 100
  unfold bytesL
  rw [List.length_cons]; omega
theorem firstI_zero : ∀ (l : List Int), firstI l = 0 → ∀ x ∈ l, x = 0
  | [], _, x, hx => by cases hx
  | a :: l, h, x, hx => by
    simp only [firstI] at h
    by_cases q : a = 0
    · rw [if_pos q] at h
      rcases List.mem_cons.1 hx with rfl | hx
      · exact q
      · exact firstI_zero l h x hx
    · rw [if_neg q] at h; exact absurd h q
theorem allI_zero {l : List Ins} (h : allI l = 0) : l.length ≤ 4000 ∧ ∀ x ∈ l, chkI x = 0 := by
  unfold allI at h
  by_cases q : 4000 < l.length
  · rw [if_pos q] at h; cases h
  · rw [if_neg q] at h
    exact ⟨by omega, fun x hx => firstI_zero _ h _ (List.mem_map_of_mem hx)⟩
theorem lenS_le (l : List Ins) (h : ∀ x ∈ l, (bytesX x).length ≤ 100) : lenS (l.map bytesX) ≤ 100 * l.length := by
  induction l with
  | nil => simp [lenS]
  | cons x l ih =>
    have := ih fun y hy => h y (List.mem_cons_of_mem _ hy)
    have h2 := h x (List.mem_cons_self ..)
    show ((bytesX x).length :: ((l.map bytesX).map List.length)).sum ≤ _
    rw [List.sum_cons, List.length_cons]
    have h3 : ((l.map bytesX).map List.length).sum = lenS (l.map bytesX) := rfl
    omega
theorem Row.weak {h0 h1 h : H} {e z : Nat} {v : Value} {n : Nat} {l : List Value} (r : Row h1 h e z v n l) (k : h0.next ≤ h1.next) : Row h0 h e z v n l := by
  rcases r with r | ⟨b, r1, r2, r⟩
  · exact .inl r
  · exact .inr ⟨b, r1, Nat.le_trans k r2, r⟩
structure EnX (tab : Tab) : Prop where
  by_ : ByX tab
  ck : CheckP tab 31
  x1 : ∀ l, callExt (EV tab) 6 l = none
  x2 : ∀ l, callExt (EV tab) 19 l = none
  x3 : ∀ l, callExt (EV tab) 33 l = none
  x4 : ∀ l, callExt (EV tab) 32 l = none
  x5 : ∀ l, callExt (EV tab) 21 l = none
  x6 : ∀ l, callExt (EV tab) 20 l = none
  x7 : ∀ l, callExt (EV tab) 34 l = none
theorem encode_run (tab : Tab) (hX : EnX tab) (h : H) (hng : tab.ng ≤ h.next) (v : Value) (l : List Ins) (hv : InS tab h v 41 l) (hn : l.length ≤ 5000) (hnum : ∀ x ∈ l, x.num < 18446744073709551616) :
    ∃ v' h', callR (EV tab) 6 [v] h = some (.tuple ⟨[v', .int .i64 (allI l)]⟩, h') ∧ Row h h' 5 1 v' (if allI l = 0 then encL l else []).length (bs (if allI l = 0 then encL l else [])) ∧ Kept h h' := by
  obtain ⟨hB, hc, x1, x2, x3, x4, x5, x6, x7⟩ := hX
  obtain ⟨h1, e1, k1⟩ := checkAll_run tab x2 x3 x4 hc h hng v l hv hn
  by_cases q : allI l = 0
  · rw [if_pos q]
    obtain ⟨hl, hz⟩ := allI_zero q
    have z : (allI l != 0) = false := by rw [q]; rfl
    have hok : ∀ x ∈ l, chkI x = 0 ∧ x.num < 18446744073709551616 := fun x hx => ⟨hz x hx, hnum x hx⟩
    obtain ⟨v2, h2, vs, e2, r2, p2, k2⟩ := mb_run tab x5 hB h1 (Nat.le_trans hng k1.le) v l (hv.kept k1) hn hok
    have hn1 : tab.ng ≤ h1.next := Nat.le_trans hng k1.le
    have hn2 : tab.ng ≤ h2.next := Nat.le_trans hn1 k2.le
    rcases r2 with ⟨rfl, r2, _⟩ | ⟨b, rfl, r3, r4, r5, r6⟩
    · have hl0 : l = [] := List.eq_nil_of_length_eq_zero r2
      subst hl0
      have e3 := conc0 tab x6 x7 h2
      generalize he : callR _ _ _ _ = r
      rw [enter6 _ _ _ (x1 _) rfl] at he
      simp only [sS, ofArgs, Int.reduceLT, Int.reduceLE, Int.reduceToNat, Int.reduceEq, readD, Nat.reduceLT, Nat.reduceEqDiff, Nat.reduceAdd, ↓reduceIte, binD, binInt, intBin, unD, convD, oLen, denseD, oFunc, oAppend, Nat.reduceMul, Nat.reduceLeDiff, fF6, tTGa, tTGb, sN, subD, loadD, isAggD, Obj.sub, Obj.get?, storeD, Obj.row, Obj.len, putL, Obj.put, fieldAddrD, indexAddrD, fieldD, indexD, placeOf, fillD, Nat.reduceSub, Nat.reduceLT, Nat.reduceBEq, Nat.reduceMod, Nat.reduceDiv, reduceCtorEq, e1, iNeq, z, e2, e3] at he
      subst he
      rw [q]
      exact ⟨_, _, rfl, .inl ⟨rfl, rfl, rfl⟩, k1.trans k2⟩
    · by_cases hl0 : l = []
      · subst hl0
        have e3 := conc0b tab x6 x7 h2 b 0
        simp only [List.length_nil] at e2
        generalize he : callR _ _ _ _ = r
        rw [enter6 _ _ _ (x1 _) rfl] at he
        simp only [sS, ofArgs, Int.reduceLT, Int.reduceLE, Int.reduceToNat, Int.reduceEq, readD, Nat.reduceLT, Nat.reduceEqDiff, Nat.reduceAdd, ↓reduceIte, binD, binInt, intBin, unD, convD, oLen, denseD, oFunc, oAppend, Nat.reduceMul, Nat.reduceLeDiff, fF6, tTGa, tTGb, sN, subD, loadD, isAggD, Obj.sub, Obj.get?, storeD, Obj.row, Obj.len, putL, Obj.put, fieldAddrD, indexAddrD, fieldD, indexD, placeOf, fillD, Nat.reduceSub, Nat.reduceLT, Nat.reduceBEq, Nat.reduceMod, Nat.reduceDiv, reduceCtorEq, e1, iNeq, z, e2, e3] at he
        subst he
        rw [q]
        exact ⟨_, _, rfl, .inl ⟨rfl, rfl, rfl⟩, k1.trans k2⟩
      · have s : CoP tab.ng h2 (.slice (some ⟨b, 0, none⟩) (l.map bytesX).length 0) vs (l.map bytesX) b 0 := ⟨rfl, by omega, r4, r5, p2.1, fun j w m a c => by
          obtain ⟨q0, d0, a1, a2, a3, a4⟩ := p2.2 j w m a c
          exact ⟨q0, d0, a1, by omega, a3, a4⟩⟩
        have hls := lenS_le l fun x hx => (bytesX_len x (hz x hx) (hnum x hx)).1
        obtain ⟨v3, h3, e3, r7, k3⟩ := conc_run tab x6 x7 h2 hn2 _ vs (l.map bytesX) b 0 s (by simp; omega) (by omega) (by
          obtain ⟨x, l', rfl⟩ : ∃ x l', l = x :: l' := by cases l with | nil => exact absurd rfl hl0 | cons x l' => exact ⟨x, l', rfl⟩
          simp [bytesX, bytesL])
        rw [List.length_map] at e3
        generalize he : callR _ _ _ _ = r
        rw [enter6 _ _ _ (x1 _) rfl] at he
        simp only [sS, ofArgs, Int.reduceLT, Int.reduceLE, Int.reduceToNat, Int.reduceEq, readD, Nat.reduceLT, Nat.reduceEqDiff, Nat.reduceAdd, ↓reduceIte, binD, binInt, intBin, unD, convD, oLen, denseD, oFunc, oAppend, Nat.reduceMul, Nat.reduceLeDiff, fF6, tTGa, tTGb, sN, subD, loadD, isAggD, Obj.sub, Obj.get?, storeD, Obj.row, Obj.len, putL, Obj.put, fieldAddrD, indexAddrD, fieldD, indexD, placeOf, fillD, Nat.reduceSub, Nat.reduceLT, Nat.reduceBEq, Nat.reduceMod, Nat.reduceDiv, reduceCtorEq, e1, iNeq, z, e2, e3] at he
        subst he
        rw [q]
        exact ⟨_, _, rfl, r7.weak (Nat.le_trans k1.le k2.le), (k1.trans k2).trans k3⟩
  · rw [if_neg q]
    have z : (allI l != 0) = true := by simpa using q
    generalize he : callR _ _ _ _ = r
    rw [enter6 _ _ _ (x1 _) rfl] at he
    simp only [sS, ofArgs, Int.reduceLT, Int.reduceLE, Int.reduceToNat, Int.reduceEq, readD, Nat.reduceLT, Nat.reduceEqDiff, Nat.reduceAdd, ↓reduceIte, binD, binInt, intBin, unD, convD, oLen, denseD, oFunc, oAppend, Nat.reduceMul, Nat.reduceLeDiff, fF6, tTGa, tTGb, sN, subD, loadD, isAggD, Obj.sub, Obj.get?, storeD, Obj.row, Obj.len, putL, Obj.put, fieldAddrD, indexAddrD, fieldD, indexD, placeOf, fillD, Nat.reduceSub, Nat.reduceLT, Nat.reduceBEq, Nat.reduceMod, Nat.reduceDiv, reduceCtorEq, e1, iNeq, z] at he
    subst he
    exact ⟨_, _, rfl, .inl ⟨rfl, rfl, rfl⟩, k1⟩
end Go.D
