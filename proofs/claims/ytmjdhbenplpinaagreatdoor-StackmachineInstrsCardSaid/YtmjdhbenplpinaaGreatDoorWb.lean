/- The functions of the law, one after the other: what a run of D answers. -/
import Derived.Test.YtmjdhbenplpinaaGreatDoorWa
import Derived.Test.YtmjdhbenplpinaaGreatDoorFull
import Derived.Test.YtmjdhbenplpinaaGreatDoorW0
import Derived.Laws.RangeString
import Derived.Laws.RangeAny
import Derived.Laws.StructEq
namespace Go.D
open Go.Proofs
set_option maxRecDepth 100000
set_option linter.unusedVariables false
set_option linter.unusedSimpArgs false
def rowB (op : Nat) : Bool := (Nat.ble 6 op && Nat.ble op 37) || (Nat.ble 46 op && Nat.ble op 49)
def formN (op : Nat) : Nat := if Nat.ble 38 op && Nat.ble op 45 then 4 else
 if Nat.ble 6 op && Nat.ble op 14 then 2 else if Nat.ble 15 op && Nat.ble op 17 then 3 else if Nat.ble 18 op && Nat.ble op 28 then 2 else if Nat.ble 29 op && Nat.ble op 31 then 1 else
 if Nat.ble 32 op && Nat.ble op 33 then 2 else if Nat.ble 34 op && Nat.ble op 37 then 3 else if Nat.ble 46 op && Nat.ble op 49 then 1 else 0
def findB (E : Env) (op : Nat) : Bool :=
 match runD E 1000 94 [.int .i64 (op : Int)] h0 with
 | some (.tuple ⟨[.agg ⟨[.int .i64 _, .int .i64 b, c, d]⟩, .bool is]⟩, h) => decide (b = if rowB op then (formN op : Int) else 0) && isOne c && isOne d && is == rowB op && Nat.ble 17 h.next
 | _ => false
theorem find_run {tab : Tab} {op : Nat} (h : findB (EV tab) op = true) : ∃ a c d hh, callR (EV tab) 94 [.int .i64 (op : Int)] h0 = some (.tuple ⟨[.agg ⟨[.int .i64 a, .int .i64 (if rowB op then (formN op : Int) else 0), c, d]⟩, .bool (rowB op)]⟩, hh) ∧ isOne c = true ∧ isOne d = true ∧ 17 ≤ hh.next := by
 unfold findB at h
 split at h
 ·rename_i a b c d is hh heq
  simp only [Bool.and_eq_true, decide_eq_true_eq, beq_iff_eq, Nat.ble_eq] at h
  obtain ⟨⟨⟨⟨rfl, h2⟩, h3⟩, rfl⟩, h5⟩ := h
  exact ⟨a, c, d, hh, run_callR heq, h2, h3, h5⟩
 ·cases h
def formV : Spec
 | [.int .i64 op] => if 0 ≤ op ∧ op < 70 then some (.int .i64 (formN op.toNat)) else none
 | _ => none
theorem formN_row (op : Nat) (h : rowB op = false) (h2 : ¬ (38 ≤ op ∧ op ≤ 45)) : formN op = 0 := by
 have h' : ¬ ((6 ≤ op ∧ op ≤ 37) ∨ (46 ≤ op ∧ op ≤ 49)) := fun hh => by
  have : rowB op = true := by simp only [rowB, Bool.or_eq_true, Bool.and_eq_true, Nat.ble_eq]; exact hh
  rw [h] at this; cases this
 simp only [formN, Bool.and_eq_true, Nat.ble_eq]
 split; · omega
 split; · omega
 split; · omega
 split; · omega
 split; · omega
 split; · omega
 split; · omega
 split; · omega
 rfl
theorem f_form {T : List (Nat × Spec)} (hT : Fine T) (hx : ∀ l, callExt (EV (tabL T)) 93 l = none) (hF : ∀ op, op < 70 → findB (EV (tabL T)) op = true) : Fine ((93, formV) :: T) :=
 hT.step (F := Tryz.f93) (by kernel_rfl) (by kernel_rfl) hx fun args v hv => by
  unfold formV at hv
  split at hv
  ·rename_i op
   split at hv
   ·rename_i hr
    cases hv
    refine ⟨rfl, rfl, ?_⟩
    obtain ⟨n, rfl⟩ : ∃ n : Nat, op = n := ⟨op.toNat, by omega⟩
    simp only [Int.toNat_natCast]
    generalize he : callR _ _ _ _ = r
    rw [enter93 _ _ _ (hx _) rfl] at he
    obtain ⟨a, c, d, hh, e1, e2, e3, e4⟩ := find_run (hF n (by omega))
    by_cases q1 : 38 ≤ n
    ·have d1 : decide ((38 : Int) ≤ n) = true := decide_eq_true (by omega)
     by_cases q2 : n ≤ 45
     ·have d2 : decide ((n : Int) ≤ 45) = true := decide_eq_true (by omega)
      have hf : formN n = 4 := by unfold formN; rw [if_pos]; simp only [Bool.and_eq_true, Nat.ble_eq]; exact ⟨q1, q2⟩
      rw [hf]
      simp only [sS, sevalprocAttr, fF93, tT, sN, sM, ng_eq, tabL_ng, h0_next, iGeq, iLeq, ge_iff_le, d1, d2] at he
      subst he
      exact ⟨_, rfl⟩
     ·have d2 : decide ((n : Int) ≤ 45) = false := decide_eq_false (by omega)
      have hf : (if rowB n then (formN n : Int) else 0) = formN n := by
       cases hb : rowB n with
       | true => rfl
       | false => rw [formN_row n hb (by omega)]; rfl
      rw [hf] at e1
      simp only [sS, sevalprocAttr, fF93, tT, sN, sM, ng_eq, tabL_ng, h0_next, iGeq, iLeq, ge_iff_le, d1, d2, e1, e2, e3, Nat.not_lt.2 e4] at he
      subst he
      exact ⟨_, rfl⟩
    ·have d1 : decide ((38 : Int) ≤ n) = false := decide_eq_false (by omega)
     have hf : (if rowB n then (formN n : Int) else 0) = formN n := by
      cases hb : rowB n with
      | true => rfl
      | false => rw [formN_row n hb (by omega)]; rfl
     rw [hf] at e1
     simp only [sS, sevalprocAttr, fF93, tT, sN, sM, ng_eq, tabL_ng, h0_next, iGeq, iLeq, ge_iff_le, d1, e1, e2, e3, Nat.not_lt.2 e4] at he
     subst he
     exact ⟨_, rfl⟩
   ·cases hv
  ·cases hv
def formE (op : Int) : Int × Int := if 0 ≤ op ∧ op < 70 then ((formN op.toNat : Nat), 0) else (0, 8)
def formEV : Spec
 | [.int .i64 op] => some (.tuple ⟨[.int .i64 (formE op).1, .int .i64 (formE op).2]⟩)
 | _ => none
theorem f_Form {T : List (Nat × Spec)} (hT : Fine T) (hx : ∀ l, callExt (EV (tabL T)) 62 l = none)
  (h1 : ∀ op h, 0 ≤ op → op < 70 → callR (EV (tabL T)) 93 [.int .i64 op] h = some (.int .i64 (formN op.toNat), h)) : Fine ((62, formEV) :: T) :=
 hT.step (F := Tryz.f62) (by kernel_rfl) (by kernel_rfl) hx fun args v hv => by
  unfold formEV at hv
  split at hv
  ·rename_i op
   cases hv
   refine ⟨rfl, rfl, ?_⟩
   unfold formE
   generalize he : callR _ _ _ _ = r
   rw [enter62 _ _ _ (hx _) rfl] at he
   by_cases q1 : op < 0
   ·rw [if_neg (by omega)]
    have d1 : decide (op < 0) = true := decide_eq_true q1
    simp only [sS, sevalprocAttr, fF62, tT, sN, sM, ng_eq, tabL_ng, h0_next, iLss, iGeq, ge_iff_le, d1] at he
    subst he
    exact ⟨_, rfl⟩
   ·have d1 : decide (op < 0) = false := decide_eq_false q1
    by_cases q2 : 70 ≤ op
    ·rw [if_neg (by omega)]
     have d2 : decide ((70 : Int) ≤ op) = true := decide_eq_true q2
     simp only [sS, sevalprocAttr, fF62, tT, sN, sM, ng_eq, tabL_ng, h0_next, iLss, iGeq, ge_iff_le, d1, d2] at he
     subst he
     exact ⟨_, rfl⟩
    ·rw [if_pos (by omega)]
     have d2 : decide ((70 : Int) ≤ op) = false := decide_eq_false q2
     have e := fun h => h1 op h (by omega) (by omega)
     simp only [sS, sevalprocAttr, fF62, tT, sN, sM, ng_eq, tabL_ng, h0_next, iLss, iGeq, ge_iff_le, d1, d2, e] at he
     subst he
     exact ⟨_, rfl⟩
  ·cases hv
def FLO : List Int := [6, 7, 8, 18, 30, 34, 35, 36, 37]
theorem glob_floating (T : List (Nat × Spec)) : ∀ i (v : Int), FLO[i]? = some v → globSub (EV (tabL T)) 0 i 1 = some [.int .i64 v] := by
 intro i v h
 have hi : i < 9 := (List.getElem?_eq_some_iff.1 h).1
 match i, hi with
 | 0, _ | 1, _ | 2, _ | 3, _ | 4, _ | 5, _ | 6, _ | 7, _ | 8, _ => cases h; rfl
def takesB (op : Nat) (s : List UInt8) : Bool := rowB op && (if isFloatB s then FLO.contains (op : Int) else
 if op = 46 ∨ op = 47 ∨ op = 48 then (rdTy s).2.2 == 0 && !(rdTy s).2.1 else
 if op = 49 then (rdTy s).2.2 == 0 && !(rdTy s).2.1 && (rdTy s).1.tmod 8 == 0 else (rdTy s).2.2 == 0)
def takesV : Spec
 | [.int .i64 op, .string ⟨⟨s⟩⟩] => if 0 ≤ op ∧ op < 70 then some (.bool (takesB op.toNat s)) else none
 | _ => none
theorem f_Takes {T : List (Nat × Spec)} (hT : Fine T) (hx : ∀ l, callExt (EV (tabL T)) 63 l = none) (hF : ∀ op, op < 70 → findB (EV (tabL T)) op = true)
  (hx1 : ∀ l, callExt (EV (tabL T)) 96 l = none) (hx2 : ∀ l, callExt (EV (tabL T)) 123 l = none)
  (h1 : ∀ s h, callR (EV (tabL T)) 97 [.string ⟨⟨s⟩⟩] h = some (.tuple ⟨[.agg ⟨[.int .i64 (rdTy s).1, .bool (rdTy s).2.1]⟩, .bool ((rdTy s).2.2 == 0)]⟩, h))
  (h2 : ∀ s h, callR (EV (tabL T)) 95 [.string ⟨⟨s⟩⟩] h = some (.bool (isFloatB s), h)) : Fine ((63, takesV) :: T) :=
 hT.step (F := Tryz.f63) (by kernel_rfl) (by kernel_rfl) hx fun args v hv => by
  unfold takesV at hv
  split at hv
  ·rename_i op s
   split at hv
   ·rename_i hr
    cases hv
    refine ⟨rfl, rfl, ?_⟩
    obtain ⟨n, rfl⟩ : ∃ n : Nat, op = n := ⟨op.toNat, by omega⟩
    simp only [Int.toNat_natCast]
    generalize he : callR _ _ _ _ = r
    rw [enter63 _ _ _ (hx _) rfl] at he
    obtain ⟨a, c, d, hh, e1, e2, e3, e4⟩ := find_run (hF n (by omega))
    have hn := Nat.not_lt.2 e4
    have hn1 : ¬ hh.next + 1 < 17 := by omega
    unfold takesB
    cases hb : rowB n with
    | false =>
     rw [hb] at e1
     simp only [sS, sevalprocAttr, fF63, tT, sN, sM, ng_eq, tabL_ng, h0_next, e1, e2, e3, hn, Bool.not_false] at he
     subst he
     exact ⟨_, rfl⟩
    | true =>
     rw [hb] at e1
     cases hf : isFloatB s with
     | true =>
      have e5 := fun h => contains_runI (tabL T) hx1 hx2 h 0 0 9 19 FLO (n : Int) (fun i v hv => by
       have := glob_floating T i v hv
       rw [Nat.zero_add, Nat.mul_one]
       have hz : (0 : Nat) < (EV (tabL T)).ng := by show (0 : Nat) < 17; decide
       simp only [subD, if_pos hz]
       exact this) rfl (by decide)
      have hz : 0 < (EV (tabL T)).ng := by show (0 : Nat) < 17; decide
      simp only [sS, sevalprocAttr, fF63, tT, sN, sM, ng_eq, tabL_ng, h0_next, e1, e2, e3, hn, hn1, h2, hf, Bool.not_true, ev_glob, oSlice, optO, sliceD, (by decide : (0 : Nat) < 17), e5] at he
      subst he
      exact ⟨_, rfl⟩
     | false =>
      simp only [Bool.true_and, Bool.false_eq_true, if_false]
      have jt : ∀ k : Int, (n : Int) = k → ((n : Int) == k) = true := fun k h => by rw [beq_iff_eq]; exact h
      have jf : ∀ k : Int, (n : Int) ≠ k → ((n : Int) == k) = false := fun k h => by rw [beq_eq_false_iff_ne]; exact h
      by_cases q : n = 46 ∨ n = 47 ∨ n = 48
      ·rw [if_pos q]
       rcases q with q | q | q
       ·have j46 := jt 46 (by omega)
        cases q1 : ((rdTy s).2.2 == 0) <;>
        ·simp only [sS, sevalprocAttr, fF63, tT, sN, sM, ng_eq, tabL_ng, h0_next, e1, e2, e3, hn, hn1, h1, h2, hf, q1, Bool.not_true, iEql, j46] at he
         subst he
         exact ⟨_, rfl⟩
       ·have j46 := jf 46 (by omega)
        have j47 := jt 47 (by omega)
        cases q1 : ((rdTy s).2.2 == 0) <;>
        ·simp only [sS, sevalprocAttr, fF63, tT, sN, sM, ng_eq, tabL_ng, h0_next, e1, e2, e3, hn, hn1, h1, h2, hf, q1, Bool.not_true, iEql, j46, j47] at he
         subst he
         exact ⟨_, rfl⟩
       ·have j46 := jf 46 (by omega)
        have j47 := jf 47 (by omega)
        have j48 := jt 48 (by omega)
        cases q1 : ((rdTy s).2.2 == 0) <;>
        ·simp only [sS, sevalprocAttr, fF63, tT, sN, sM, ng_eq, tabL_ng, h0_next, e1, e2, e3, hn, hn1, h1, h2, hf, q1, Bool.not_true, iEql, j46, j47, j48] at he
         subst he
         exact ⟨_, rfl⟩
      ·rw [if_neg q]
       have j46 := jf 46 (by omega)
       have j47 := jf 47 (by omega)
       have j48 := jf 48 (by omega)
       by_cases q2 : n = 49
       ·rw [if_pos q2]
        have j49 := jt 49 (by omega)
        have r1 : iRem .i64 (rdTy s).1 8 = some (.int .i64 ((rdTy s).1.tmod 8)) := by
         unfold iRem; rw [if_neg (by decide)]
        cases q1 : ((rdTy s).2.2 == 0) <;> cases q3 : (rdTy s).2.1 <;>
        ·simp only [sS, sevalprocAttr, fF63, tT, sN, sM, ng_eq, tabL_ng, h0_next, e1, e2, e3, hn, hn1, h1, h2, hf, q1, q3, Bool.not_true, Bool.not_false, iEql, j46, j47, j48, j49, r1] at he
         subst he
         exact ⟨_, rfl⟩
       ·rw [if_neg q2]
        have j49 := jf 49 (by omega)
        simp only [sS, sevalprocAttr, fF63, tT, sN, sM, ng_eq, tabL_ng, h0_next, e1, e2, e3, hn, hn1, h1, h2, hf, Bool.not_true, iEql, j46, j47, j48, j49] at he
        subst he
        exact ⟨_, rfl⟩
   ·cases hv
  ·cases hv
def isI (s : List UInt8) : Bool := (rdTy s).2.2 == 0
def convB (op : Int) (s t : List UInt8) : Bool :=
 if op = 38 ∨ op = 39 then isI s && isI t else
 if op = 40 then isI s && isI t && decide ((rdTy t).1 ≤ (rdTy s).1) else
 if op = 41 then firstI [(opsW s).2, (opsW t).2] == 0 && (opsW s).1 == (opsW t).1 && !(s == PTR) && !(t == PTR) else
 if op = 42 then isI s && isFloatB t else
 if op = 43 ∨ op = 44 then isFloatB s && isI t else
 if op = 45 then isFloatB s && isFloatB t && !(s == t) else false
def convV : Spec
 | [.int .i64 op, .string ⟨⟨s⟩⟩, .string ⟨⟨t⟩⟩] => some (.bool (convB op s t))
 | _ => none
theorem f_Converts {T : List (Nat × Spec)} (hT : Fine T) (hx : ∀ l, callExt (EV (tabL T)) 64 l = none) (hx1 : ∀ l, callExt (EV (tabL T)) 98 l = none)
  (h1 : ∀ s h, callR (EV (tabL T)) 97 [.string ⟨⟨s⟩⟩] h = some (.tuple ⟨[.agg ⟨[.int .i64 (rdTy s).1, .bool (rdTy s).2.1]⟩, .bool ((rdTy s).2.2 == 0)]⟩, h))
  (h2 : ∀ s h, callR (EV (tabL T)) 95 [.string ⟨⟨s⟩⟩] h = some (.bool (isFloatB s), h))
  (h3 : ∀ s h, callR (EV (tabL T)) 92 [.string ⟨⟨s⟩⟩] h = some (.tuple ⟨[.int .i64 (opsW s).1, .int .i64 (opsW s).2]⟩, h)) : Fine ((64, convV) :: T) :=
 hT.step (F := Tryz.f64) (by kernel_rfl) (by kernel_rfl) hx fun args v hv => by
  unfold convV at hv
  split at hv
  ·rename_i op s t
   cases hv
   refine ⟨rfl, rfl, ?_⟩
   have jt : ∀ k : Int, op = k → (op == k) = true := fun k h => by rw [beq_iff_eq]; exact h
   have jf : ∀ k : Int, op ≠ k → (op == k) = false := fun k h => by rw [beq_eq_false_iff_ne]; exact h
   have g1 : ∀ s h, callR (EV (tabL T)) 97 [.string ⟨⟨s⟩⟩] h = some (.tuple ⟨[.agg ⟨[.int .i64 (rdTy s).1, .bool (rdTy s).2.1]⟩, .bool (isI s)]⟩, h) := h1
   clear h1
   generalize he : callR _ _ _ _ = r
   rw [enter64 _ _ _ (hx _) rfl] at he
   unfold convB
   by_cases q1 : op = 38 ∨ op = 39
   ·rw [if_pos q1]
    rcases q1 with q1 | q1
    ·have j38 := jt 38 q1
     cases a1 : isI s <;>
     ·simp only [sS, sevalprocAttr, fF64, tT, sN, sM, ng_eq, tabL_ng, h0_next, g1, h2, h3, iEql, j38, a1] at he
      subst he
      exact ⟨_, rfl⟩
    ·have j38 := jf 38 (by omega)
     have j39 := jt 39 q1
     cases a1 : isI s <;>
     ·simp only [sS, sevalprocAttr, fF64, tT, sN, sM, ng_eq, tabL_ng, h0_next, g1, h2, h3, iEql, j38, j39, a1] at he
      subst he
      exact ⟨_, rfl⟩
   ·rw [if_neg q1]
    have j38 := jf 38 (by omega)
    have j39 := jf 39 (by omega)
    by_cases q2 : op = 40
    ·rw [if_pos q2]
     have j40 := jt 40 q2
     cases a1 : isI s <;> cases a2 : isI t <;>
     ·simp only [sS, sevalprocAttr, fF64, tT, sN, sM, ng_eq, tabL_ng, h0_next, g1, h2, h3, iEql, iLeq, j38, j39, j40, a1, a2] at he
      subst he
      exact ⟨_, rfl⟩
    ·rw [if_neg q2]
     have j40 := jf 40 q2
     by_cases q3 : op = 41
     ·rw [if_pos q3]
      have j41 := jt 41 q3
      have e6 := fun h c hg => first_runO (tabL T) hx1 h 19 c 2 [(opsW s).2, (opsW t).2] (tng T (by decide)) hg rfl (by decide)
      have a4 : ∀ l : List UInt8, (l == [112, 116, 114]) = (l == PTR) := fun _ => rfl
      cases a1 : (firstI [(opsW s).2, (opsW t).2] == 0) <;> cases a2 : ((opsW s).1 == (opsW t).1) <;> cases a3 : (s == PTR) <;>
      ·simp only [sS, sevalprocAttr, fF64, tT, sN, sM, ng_eq, tabL_ng, h0_next, g1, h2, h3, iEql, j38, j39, j40, j41, a1, a2, a3, a4, binStr, strBin, sNeq, bs_beq, e6, List.map_cons, List.map_nil, Bool.not_true, Bool.not_false] at he
       subst he
       exact ⟨_, rfl⟩
     ·rw [if_neg q3]
      have j41 := jf 41 q3
      by_cases q4 : op = 42
      ·rw [if_pos q4]
       have j42 := jt 42 q4
       cases a1 : isI s <;>
       ·simp only [sS, sevalprocAttr, fF64, tT, sN, sM, ng_eq, tabL_ng, h0_next, g1, h2, h3, iEql, j38, j39, j40, j41, j42, a1] at he
        subst he
        exact ⟨_, rfl⟩
      ·rw [if_neg q4]
       have j42 := jf 42 q4
       by_cases q5 : op = 43 ∨ op = 44
       ·rw [if_pos q5]
        rcases q5 with q5 | q5
        ·have j43 := jt 43 q5
         cases a1 : isFloatB s <;>
         ·simp only [sS, sevalprocAttr, fF64, tT, sN, sM, ng_eq, tabL_ng, h0_next, g1, h2, h3, iEql, j38, j39, j40, j41, j42, j43, a1] at he
          subst he
          exact ⟨_, rfl⟩
        ·have j43 := jf 43 (by omega)
         have j44 := jt 44 q5
         cases a1 : isFloatB s <;>
         ·simp only [sS, sevalprocAttr, fF64, tT, sN, sM, ng_eq, tabL_ng, h0_next, g1, h2, h3, iEql, j38, j39, j40, j41, j42, j43, j44, a1] at he
          subst he
          exact ⟨_, rfl⟩
       ·rw [if_neg q5]
        have j43 := jf 43 (by omega)
        have j44 := jf 44 (by omega)
        by_cases q6 : op = 45
        ·rw [if_pos q6]
         have j45 := jt 45 q6
         cases a1 : isFloatB s <;> cases a2 : isFloatB t <;>
         ·simp only [sS, sevalprocAttr, fF64, tT, sN, sM, ng_eq, tabL_ng, h0_next, g1, h2, h3, iEql, j38, j39, j40, j41, j42, j43, j44, j45, a1, a2, binStr, strBin, sNeq, bs_beq] at he
          subst he
          exact ⟨_, rfl⟩
        ·rw [if_neg q6]
         have j45 := jf 45 q6
         simp only [sS, sevalprocAttr, fF64, tT, sN, sM, ng_eq, tabL_ng, h0_next, g1, h2, h3, iEql, j38, j39, j40, j41, j42, j43, j44, j45] at he
         subst he
         exact ⟨_, rfl⟩
  ·cases hv
def existsB (op : Int) (t u : List UInt8) (num : Int) : Bool :=
 if op = 6 then (formE (IntKind.i64.wrap num)).2 == 0 && (formE (IntKind.i64.wrap num)).1 == 1 && takesB (IntKind.i64.wrap num).toNat t else
 if op = 7 then (formE (IntKind.i64.wrap num)).2 == 0 && ((formE (IntKind.i64.wrap num)).1 == 2 || (formE (IntKind.i64.wrap num)).1 == 3) && takesB (IntKind.i64.wrap num).toNat t else
 if op = 8 then (formE (IntKind.i64.wrap num)).2 == 0 && (formE (IntKind.i64.wrap num)).1 == 4 && convB (IntKind.i64.wrap num) t u else true
def existsV : Spec
 | [.agg ⟨[.int .i64 op, .string ⟨⟨t⟩⟩, .string ⟨⟨u⟩⟩, .int .u64 num, .int .i64 imm, .int .i64 size]⟩] => some (.bool (existsB op t u num))
 | _ => none
theorem formE_ok {op : Int} (h : ((formE op).2 == 0) = true) : 0 ≤ op ∧ op < 70 := by
 unfold formE at h
 split at h
 ·assumption
 ·cases h
theorem f_exists {T : List (Nat × Spec)} (hT : Fine T) (hx : ∀ l, callExt (EV (tabL T)) 37 l = none)
  (h1 : ∀ op h, callR (EV (tabL T)) 62 [.int .i64 op] h = some (.tuple ⟨[.int .i64 (formE op).1, .int .i64 (formE op).2]⟩, h))
  (h2 : ∀ op s h, 0 ≤ op → op < 70 → callR (EV (tabL T)) 63 [.int .i64 op, .string ⟨⟨s⟩⟩] h = some (.bool (takesB op.toNat s), h))
  (h3 : ∀ op s t h, callR (EV (tabL T)) 64 [.int .i64 op, .string ⟨⟨s⟩⟩, .string ⟨⟨t⟩⟩] h = some (.bool (convB op s t), h)) : Fine ((37, existsV) :: T) :=
 hT.step (F := Tryz.f37) (by kernel_rfl) (by kernel_rfl) hx fun args v hv => by
  unfold existsV at hv
  split at hv
  ·rename_i op t u num imm size
   cases hv
   refine ⟨rfl, rfl, ?_⟩
   have jt : ∀ k : Int, op = k → (op == k) = true := fun k h => by rw [beq_iff_eq]; exact h
   have jf : ∀ k : Int, op ≠ k → (op == k) = false := fun k h => by rw [beq_eq_false_iff_ne]; exact h
   generalize he : callR _ _ _ _ = r
   rw [enter37 _ _ _ (hx _) rfl] at he
   unfold existsB
   by_cases q1 : op = 6
   ·rw [if_pos q1]
    have j6 := jt 6 q1
    cases a1 : ((formE (IntKind.i64.wrap num)).2 == 0) with
    | false =>
     simp only [sS, sevalprocAttr, fF37, tT, sN, sM, ng_eq, tabL_ng, h0_next, h1, iEql, j6, a1] at he
     subst he
     exact ⟨_, rfl⟩
    | true =>
     have e := fun s h => h2 (IntKind.i64.wrap num) s h (formE_ok a1).1 (formE_ok a1).2
     cases a2 : ((formE (IntKind.i64.wrap num)).1 == 1) <;>
     ·simp only [sS, sevalprocAttr, fF37, tT, sN, sM, ng_eq, tabL_ng, h0_next, h1, iEql, j6, a1, a2, e] at he
      subst he
      exact ⟨_, rfl⟩
   ·rw [if_neg q1]
    have j6 := jf 6 q1
    by_cases q2 : op = 7
    ·rw [if_pos q2]
     have j7 := jt 7 q2
     cases a1 : ((formE (IntKind.i64.wrap num)).2 == 0) with
     | false =>
      simp only [sS, sevalprocAttr, fF37, tT, sN, sM, ng_eq, tabL_ng, h0_next, h1, iEql, j6, j7, a1] at he
      subst he
      exact ⟨_, rfl⟩
     | true =>
      have e := fun s h => h2 (IntKind.i64.wrap num) s h (formE_ok a1).1 (formE_ok a1).2
      cases a2 : ((formE (IntKind.i64.wrap num)).1 == 2) <;> cases a3 : ((formE (IntKind.i64.wrap num)).1 == 3) <;>
      ·simp only [sS, sevalprocAttr, fF37, tT, sN, sM, ng_eq, tabL_ng, h0_next, h1, iEql, j6, j7, a1, a2, a3, e] at he
       subst he
       exact ⟨_, rfl⟩
    ·rw [if_neg q2]
     have j7 := jf 7 q2
     by_cases q3 : op = 8
     ·rw [if_pos q3]
      have j8 := jt 8 q3
      cases a1 : ((formE (IntKind.i64.wrap num)).2 == 0) <;> cases a2 : ((formE (IntKind.i64.wrap num)).1 == 4) <;>
      ·simp only [sS, sevalprocAttr, fF37, tT, sN, sM, ng_eq, tabL_ng, h0_next, h1, h3, iEql, j6, j7, j8, a1, a2] at he
       subst he
       exact ⟨_, rfl⟩
     ·rw [if_neg q3]
      have j8 := jf 8 q3
      simp only [sS, sevalprocAttr, fF37, tT, sN, sM, ng_eq, tabL_ng, h0_next, h1, iEql, j6, j7, j8] at he
      subst he
      exact ⟨_, rfl⟩
  ·cases hv
structure ChkAt (N : Nat) (h : H) (tm : Tr Value) (bi bk base : Nat) (op : Int) (t u : List UInt8) (num imm size : Int) (r : KindR) : Prop where
 t1 : tm.get 1 = some (.pointer (some ⟨bi, 0, none⟩))
 t3 : tm.get 3 = some (.pointer (some ⟨bk, 0, none⟩))
 g1 : h.get bi = some (.cells 39 6 (insL op t u num imm size))
 g3 : h.get bk = some (.cells 73 5 (kindL base r))
 b1 : N ≤ bi
 b3 : N ≤ bk
 l1 : bi < h.next
 l3 : bk < h.next
theorem rightV_veq (n b : Nat) (r : Right) : veq (n + 2) (rightV b r) (rightV b r) = true := by
 cases r with
 | below i m => exact veq_func (by simp only [List.all_cons, List.all_nil, veq_ptr, Bool.and_self])
 | free => exact veq_func rfl
 | near => exact veq_func rfl
 | aligned => exact veq_func rfl
 | entered => exact veq_func rfl
theorem kindL_veq (b : Nat) (r : KindR) : veq 3 (.agg ⟨kindL b r⟩) (.agg ⟨kindL b r⟩) = true :=
 veq_agg (by simp only [kindL, List.all_cons, List.all_nil, veq_str, veq_int, rightV_veq 0, Bool.and_self])
abbrev HasAny (tab : Tab) : Prop := ∀ (o s : List UInt8) (h : H), asc o = true → asc s = true → callR (EV tab) 61 [.string ⟨⟨o⟩⟩, .string ⟨⟨s⟩⟩] h = some (.bool (hasB o s), h)
theorem check_types (tab : Tab) (hxu : ∀ l, callExt (EV tab) 34 l = none) (hh : HasAny tab)
  (hw : ∀ s b h, callR (EV tab) 33 [.string ⟨⟨s⟩⟩, .bool b] h = some (.bool (wrongB s b), h))
  (h : H) (tm : Tr Value) (bi bk base : Nat) (op : Int) (t u : List UInt8) (num imm size : Int) (r : KindR) (hr : asc r.uses = true) (c : ChkAt tab.ng h tm bi bk base op t u num imm size r) :
  ∃ tm' h', exR (EV tab) (Rg 15 4) ⟨false, 71, tm, h⟩ = some (.normal, ⟨false, 71, tm', h'⟩) ∧ Kept h h' ∧ tm'.get 1 = tm.get 1 ∧ tm'.get 3 = tm.get 3 ∧
   tm'.get 5 = some (.bool (wrongB t (hasB r.uses [84]) || wrongB u (hasB r.uses [85]))) := by
 obtain ⟨t1, t3, g1, g3, b1, b3, l1, l3⟩ := c
 have e := fun s hs h hn => uses_run tab hxu hh base r s hr hs h hn
 have n1 : ¬ bi < tab.ng := by omega
 have n3 : ¬ bk < tab.ng := by omega
 have m1 : ¬ h.next = bi := by omega
 have m3 : ¬ h.next = bk := by omega
 have m1a : ¬ h.next + 1 = bi := by omega
 have m3a : ¬ h.next + 1 = bk := by omega
 have m1b : ¬ h.next + 1 + 1 = bi := by omega
 have m3b : ¬ h.next + 1 + 1 = bk := by omega
 have hv := kindL_veq base r
 have hn : tab.ng ≤ h.next := by omega
 have hn2 : tab.ng ≤ h.next + 1 := by omega
 have a1 : asc [84] = true := rfl
 have a2 : asc [85] = true := rfl
 have e1 := e [84] a1
 have e2 := e [85] a2
 simp only [kindL] at e1 e2 g3 hv
 simp only [insL] at g1
 cases w1 : wrongB t (hasB r.uses [84]) with
 | true =>
  generalize he : exR (EV tab) (Rg 15 4) ⟨false, 71, tm, h⟩ = x
  simp only [sS, sevalprocAttr, fF15, tT, sN, sM, ng_eq, tabL_ng, t1, t3, g1, g3, n1, n3, m1, m3, m1a, m3a, m1b, m3b, e1 h hn, hw, w1, hv, veq_str, rightV_one, H.get_push, H.next_push] at he
  subst he
  refine ⟨_, _, rfl, (Kept.refl _).push _, ?_, ?_, ?_⟩ <;> simp only [Tr.get_set, Nat.reduceEqDiff, ↓reduceIte, t1, t3, Bool.true_or]
 | false =>
  generalize he : exR (EV tab) (Rg 15 4) ⟨false, 71, tm, h⟩ = x
  have e3 := e2 (h.push (.cells 73 5 [.string ⟨⟨r.name⟩⟩, .string ⟨⟨r.uses⟩⟩, .int .i64 r.pops, .int .i64 r.puts, rightV base r.right])) (by rw [H.next_push]; omega)
  simp only [sS, sevalprocAttr, fF15, tT, sN, sM, ng_eq, tabL_ng, t1, t3, g1, g3, n1, n3, m1, m3, m1a, m3a, m1b, m3b, e1 h hn, e3, hw, w1, hv, veq_str, rightV_one, H.get_push, H.next_push] at he
  subst he
  refine ⟨_, _, rfl, ((Kept.refl _).push _).push _, ?_, ?_, ?_⟩ <;> simp only [Tr.get_set, Nat.reduceEqDiff, ↓reduceIte, t1, t3, Bool.false_or]
def spareB (uses : List UInt8) (num imm size : Int) : Bool := (num != 0 && !hasB uses [110, 119, 76]) || (imm != 0 && !hasB uses [115, 100, 80]) || (size != 0 && !hasB uses [70])
theorem check_spare (tab : Tab) (hxu : ∀ l, callExt (EV tab) 34 l = none) (hh : HasAny tab)
  (h : H) (tm : Tr Value) (bi bk base : Nat) (op : Int) (t u : List UInt8) (num imm size : Int) (r : KindR) (hr : asc r.uses = true) (c : ChkAt tab.ng h tm bi bk base op t u num imm size r) :
  ∃ tm' h', exR (EV tab) (Rg 15 5) ⟨false, 71, tm, h⟩ = some (.normal, ⟨false, 71, tm', h'⟩) ∧ Kept h h' ∧ tm'.get 1 = tm.get 1 ∧ tm'.get 3 = tm.get 3 ∧ tm'.get 5 = tm.get 5 ∧
   tm'.get 6 = some (.bool (spareB r.uses num imm size)) := by
 obtain ⟨t1, t3, g1, g3, b1, b3, l1, l3⟩ := c
 have n1 : ¬ bi < tab.ng := by omega
 have n3 : ¬ bk < tab.ng := by omega
 have m1 : ¬ h.next = bi := by omega
 have m3 : ¬ h.next = bk := by omega
 have m1a : ¬ h.next + 1 = bi := by omega
 have m3a : ¬ h.next + 1 = bk := by omega
 have m1b : ¬ h.next + 1 + 1 = bi := by omega
 have m3b : ¬ h.next + 1 + 1 = bk := by omega
 have hn : tab.ng ≤ h.next := by omega
 have e1 := fun h hn => uses_run tab hxu hh base r [110, 119, 76] hr rfl h hn
 have e2 := fun h hn => uses_run tab hxu hh base r [115, 100, 80] hr rfl h hn
 have e3 := fun h hn => uses_run tab hxu hh base r [70] hr rfl h hn
 simp only [kindL] at e1 e2 e3 g3
 simp only [insL] at g1
 have k1 := e1 h hn
 have k2 := e2 h hn
 have k3 := e3 h hn
 have k4 := e2 (h.push (.cells 73 5 [.string ⟨⟨r.name⟩⟩, .string ⟨⟨r.uses⟩⟩, .int .i64 r.pops, .int .i64 r.puts, rightV base r.right])) (by rw [H.next_push]; omega)
 have k5 := e3 (h.push (.cells 73 5 [.string ⟨⟨r.name⟩⟩, .string ⟨⟨r.uses⟩⟩, .int .i64 r.pops, .int .i64 r.puts, rightV base r.right])) (by rw [H.next_push]; omega)
 have k6 := e3 ((h.push (.cells 73 5 [.string ⟨⟨r.name⟩⟩, .string ⟨⟨r.uses⟩⟩, .int .i64 r.pops, .int .i64 r.puts, rightV base r.right])).push (.cells 73 5 [.string ⟨⟨r.name⟩⟩, .string ⟨⟨r.uses⟩⟩, .int .i64 r.pops, .int .i64 r.puts, rightV base r.right])) (by rw [H.next_push, H.next_push]; omega)
 unfold spareB
 cases u1 : (num != 0) <;> cases v1 : hasB r.uses [110, 119, 76] <;> cases u2 : (imm != 0) <;> cases v2 : hasB r.uses [115, 100, 80] <;> cases u3 : (size != 0) <;>
 ·generalize he : exR (EV tab) (Rg 15 5) ⟨false, 71, tm, h⟩ = x
  simp only [sS, sevalprocAttr, fF15, tT, sN, sM, ng_eq, tabL_ng, t1, t3, g1, g3, n1, n3, m1, m3, m1a, m3a, m1b, m3b, k1, k2, k3, k4, k5, k6, u1, u2, u3, v1, v2, iNeq, rightV_one, H.get_push, H.next_push, Bool.not_true, Bool.not_false] at he
  subst he
  refine ⟨_, _, rfl, ?_, ?_, ?_, ?_, ?_⟩
  ·repeat (first | exact Kept.refl _ | apply Kept.push)
  all_goals simp only [Tr.get_set, Nat.reduceEqDiff, ↓reduceIte, t1, t3, Bool.true_or, Bool.false_or, Bool.not_true, Bool.not_false, Bool.and_true, Bool.and_false, Bool.true_and, Bool.false_and, Bool.or_false, Bool.or_true]
def rightB (num imm size : Int) : Right → Bool
 | .free => true
 | .near => nearB imm
 | .aligned => alignB num
 | .entered => enterB num imm size
 | .below _ n => decide (num ≤ n)
theorem insL_veq (op : Int) (t u : List UInt8) (num imm size : Int) : veq 3 (.agg ⟨insL op t u num imm size⟩) (.agg ⟨insL op t u num imm size⟩) = true :=
 veq_agg (by simp only [insL, List.all_cons, List.all_nil, veq_str, veq_int, Bool.and_self])
structure Rights (tab : Tab) : Prop where
 free : ∀ op t u num imm size h, callR (EV tab) 78 [insV op t u num imm size] h = some (.bool true, h)
 near : ∀ op t u num imm size h, callR (EV tab) 80 [insV op t u num imm size] h = some (.bool (nearB imm), h)
 aligned : ∀ op t u num imm size h, callR (EV tab) 81 [insV op t u num imm size] h = some (.bool (alignB num), h)
 entered : ∀ op t u num imm size h, 0 ≤ num → callR (EV tab) 82 [insV op t u num imm size] h = some (.bool (enterB num imm size), h)
 below : ∀ l, callExt (EV tab) 111 l = none
def lastI (types spare : Bool) (op : Int) (t u : List UInt8) (num imm size : Int) (r : Right) : Int :=
 firstI [if types then 12 else 0, if spare then 1 else 0, if !(rightB num imm size r) then 3 else 0, if !(existsB op t u num) then 11 else 0]
theorem check_last (tab : Tab) (hxf : ∀ l, callExt (EV tab) 35 l = none) (hw : ∀ b e h, callR (EV tab) 36 [.bool b, .int .i64 e] h = some (.int .i64 (if b then e else 0), h))
  (hR : Rights tab) (hE : ∀ op t u num imm size h, callR (EV tab) 37 [insV op t u num imm size] h = some (.bool (existsB op t u num), h))
  (h : H) (tm : Tr Value) (bi bk base : Nat) (op : Int) (t u : List UInt8) (num imm size : Int) (hnum : 0 ≤ num) (r : KindR) (c : ChkAt tab.ng h tm bi bk base op t u num imm size r)
  (hb : ∀ i n, r.right = .below i n → h.get (base + i) = some (.cells 34 1 [.int .u64 n]) ∧ tab.ng ≤ base + i ∧ base + i < h.next) (types spare : Bool) (t5 : tm.get 5 = some (.bool types)) (t6 : tm.get 6 = some (.bool spare)) :
  ∃ tm' h', exR (EV tab) (Rg 15 6) ⟨false, 71, tm, h⟩ = some (.normal, ⟨false, 71, tm', h'⟩) ∧ Kept h h' ∧ tm'.get 2 = some (.int .i64 (lastI types spare op t u num imm size r.right)) := by
 obtain ⟨t1, t3, g1, g3, b1, b3, l1, l3⟩ := c
 have n1 : ¬ bi < tab.ng := by omega
 have n3 : ¬ bk < tab.ng := by omega
 have m1 : ¬ h.next = bi := by omega
 have m3 : ¬ h.next = bk := by omega
 have hn : ¬ h.next < tab.ng := by omega
 have hn1 : ¬ h.next + 1 < tab.ng := by omega
 have hv := insL_veq op t u num imm size
 have hv2 := rightV_veq 1 base r.right
 have ho := rightV_one base r.right
 have e6 := fun (h1 : H) (hq : tab.ng ≤ h1.next) (c : Nat) (x1 x2 x3 x4 : Int) => first_run tab hxf (h1.push (.cells 25 1 [.int .i64 x1, .int .i64 x2, .int .i64 x3, .int .i64 x4])) h1.next c 4 [x1, x2, x3, x4] hq (H.get_push_self _ _) rfl (by decide)
 unfold lastI
 simp only [kindL] at g3
 cases hr : r.right with
 | below i n =>
  obtain ⟨q1, q2, q3⟩ := hb i n hr
  have e5 := fun op t u num imm size => below1_run tab hR.below n h (base + i) q2 q3 q1 op t u num imm size
  have e7 := e6 (h.push (.cells 39 6 (insL op t u num imm size))) (by rw [H.next_push]; omega)
  rw [hr] at g3 hv2 ho
  generalize he : exR (EV tab) (Rg 15 6) ⟨false, 71, tm, h⟩ = x
  simp only [insV, insL, H.next_push] at e5 e7 g1 hv
  have hE' := hE
  simp only [insV, insL] at hE'
  simp only [rightB, rightV, belowF, H.next_push] at g3 hv2 ho
  simp only [sS, sevalprocAttr, fF15, tT, sN, sM, ng_eq, tabL_ng, t1, t3, t5, t6, g1, g3, n1, n3, m1, m3, hn, hn1, hv, hv2, ho, hw, hE', e5, e7, H.get_push, H.next_push, rightB] at he
  subst he
  refine ⟨_, _, rfl, ?_, ?_⟩
  ·repeat (first | exact Kept.refl _ | apply Kept.push)
  ·simp only [Tr.get_set, Nat.reduceEqDiff, ↓reduceIte]
   try rfl
 | free | near | aligned | entered =>
  have e7 := e6 h (by omega)
  rw [hr] at g3 hv2 ho
  obtain ⟨r1, r2, r3, r4', -⟩ := hR
  have r4 := fun op t u imm size h => r4' op t u num imm size h hnum
  generalize he : exR (EV tab) (Rg 15 6) ⟨false, 71, tm, h⟩ = x
  simp only [insV, insL] at r1 r2 r3 r4 g1 hv
  have hE' := hE
  simp only [insV, insL] at hE'
  simp only [rightB, rightV] at g3 hv2 ho
  simp only [sS, sevalprocAttr, fF15, tT, sN, sM, ng_eq, tabL_ng, t1, t3, t5, t6, g1, g3, n1, n3, m1, m3, hn, hn1, hv, hv2, ho, hw, hE', r1, r2, r3, r4, e7, H.get_push, H.next_push, rightB] at he
  subst he
  refine ⟨_, _, rfl, ?_, ?_⟩
  ·repeat (first | exact Kept.refl _ | apply Kept.push)
  ·simp only [Tr.get_set, Nat.reduceEqDiff, ↓reduceIte]
   try rfl
structure ChkP (h : H) (tm : Tr Value) (bi bk base : Nat) (op : Int) (t u : List UInt8) (num imm size : Int) (r : KindR) : Prop where
 c : ChkAt 17 h tm bi bk base op t u num imm size r
 below : ∀ i n, r.right = .below i n → h.get (base + i) = some (.cells 34 1 [.int .u64 n]) ∧ 17 ≤ base + i ∧ base + i < h.next
theorem ChkP.kept {h h' : H} {tm tm' : Tr Value} {bi bk base : Nat} {op : Int} {t u : List UInt8} {num imm size : Int} {r : KindR} (p : ChkP h tm bi bk base op t u num imm size r) (k : Kept h h') (e1 : tm'.get 1 = tm.get 1) (e3 : tm'.get 3 = tm.get 3) :
  ChkP h' tm' bi bk base op t u num imm size r := by
 obtain ⟨⟨t1, t3, g1, g3, b1, b3, l1, l3⟩, hb⟩ := p
 refine ⟨⟨e1.trans t1, e3.trans t3, by rw [k.get _ l1]; exact g1, by rw [k.get _ l3]; exact g3, b1, b3, Nat.lt_of_lt_of_le l1 k.le, Nat.lt_of_lt_of_le l3 k.le⟩, fun i n hr => ?_⟩
 obtain ⟨q1, q2, q3⟩ := hb i n hr
 exact ⟨by rw [k.get _ q3]; exact q1, q2, Nat.lt_of_lt_of_le q3 k.le⟩
def kindAt (op : Int) : Option KindR := if 0 ≤ op then kindT[op.toNat]? else none
def checkI (op : Int) (t u : List UInt8) (num imm size : Int) : Int :=
 match kindAt op with
 | none => 11
 | some r => lastI (wrongB t (hasB r.uses [84]) || wrongB u (hasB r.uses [85])) (spareB r.uses num imm size) op t u num imm size r.right
def checkV : Spec
 | [.agg ⟨[.int .i64 op, .string ⟨⟨t⟩⟩, .string ⟨⟨u⟩⟩, .int .u64 num, .int .i64 imm, .int .i64 size]⟩] => if 0 ≤ num then some (.int .i64 (checkI op t u num imm size)) else none
 | _ => none
theorem kindT_asc : kindT.all (fun r => asc r.uses) = true := by decide
theorem kindT_below : ∀ (k : Nat) (r : KindR), kindT[k]? = some r → ∀ i n, r.right = .below i n → kindBounds[i]? = some n := by
 have h : kindT.all (fun r => match r.right with | .below i n => kindBounds[i]? == some n | _ => true) = true := by decide
 intro k r hk i n hr
 have := List.all_eq_true.1 h r (List.mem_of_getElem? hk)
 rw [hr] at this
 simpa using this
theorem kindAt_cases (op : Int) : (kindAt op = none ∧ (op < 0 ∨ 29 ≤ op)) ∨ ∃ k : Nat, op = k ∧ ∃ r, kindT[k]? = some r ∧ kindAt op = some r := by
 unfold kindAt
 by_cases h0 : 0 ≤ op
 ·obtain ⟨k, rfl⟩ : ∃ k : Nat, op = k := ⟨op.toNat, by omega⟩
  rw [if_pos h0, Int.toNat_natCast]
  cases hk : kindT[k]? with
  | none =>
   have := List.getElem?_eq_none_iff.1 hk
   have h2 : kindT.length = 29 := rfl
   exact .inl ⟨rfl, .inr (by omega)⟩
  | some r => exact .inr ⟨k, rfl, r, hk, rfl⟩
 ·rw [if_neg h0]; exact .inl ⟨rfl, .inl (by omega)⟩
theorem f_Check {T : List (Nat × Spec)} (hT : Fine T) (hx : ∀ l, callExt (EV (tabL T)) 15 l = none)
  (hx1 : ∀ l, callExt (EV (tabL T)) 23 l = none) (hx2 : ∀ l, callExt (EV (tabL T)) 47 l = none) (hx3 : ∀ l, callExt (EV (tabL T)) 79 l = none)
  (hxu : ∀ l, callExt (EV (tabL T)) 34 l = none) (hxf : ∀ l, callExt (EV (tabL T)) 35 l = none) (hh : HasAny (tabL T)) (hR : Rights (tabL T))
  (hw : ∀ s b h, callR (EV (tabL T)) 33 [.string ⟨⟨s⟩⟩, .bool b] h = some (.bool (wrongB s b), h))
  (hwh : ∀ b e h, callR (EV (tabL T)) 36 [.bool b, .int .i64 e] h = some (.int .i64 (if b then e else 0), h))
  (hE : ∀ op t u num imm size h, callR (EV (tabL T)) 37 [insV op t u num imm size] h = some (.bool (existsB op t u num), h)) : Fine ((15, checkV) :: T) :=
 hT.step (F := Tryz.f15) (by kernel_rfl) (by kernel_rfl) hx fun args v hv => by
  unfold checkV at hv
  split at hv
  ·rename_i op t u num imm size
   split at hv
   ·rename_i hnum
    cases hv
    refine ⟨rfl, rfl, ?_⟩
    unfold checkI
    have hg : (h0.push (.cells 39 6 (insL op t u num imm size))).get 17 = some (.cells 39 6 (insL op t u num imm size)) := H.get_push_self _ _
    have hnx : (h0.push (.cells 39 6 (insL op t u num imm size))).next = 18 := rfl
    rcases kindAt_cases op with ⟨hk, ho⟩ | ⟨k, rfl, r, hk, hk2⟩
    ·rw [hk]
     obtain ⟨h', e, kp⟩ := kindOf_out (tabL T) hx1 hx2 hx3 (h0.push (.cells 39 6 (insL op t u num imm size))) (tng T (by rw [hnx]; decide)) op ho
     have hn : ¬ h'.next < 17 := by have := kp.le; omega
     have g1 := kp.get 17 (by rw [hnx]; decide)
     rw [hg] at g1
     simp only [insL] at e g1
     simp only [kindZ] at e
     generalize he : callR _ _ _ _ = x
     rw [enter15 _ _ _ (hx _) rfl] at he
     simp only [sS, sevalprocAttr, fF15, tT, sN, sM, ng_eq, tabL_ng, h0_next, e, g1, hn, Bool.not_false] at he
     subst he
     exact ⟨_, rfl⟩
    ·rw [hk2]
     obtain ⟨h', e, kp, hn', hb⟩ := kindOf_in (tabL T) hx1 hx2 hx3 (h0.push (.cells 39 6 (insL k t u num imm size))) (tng T (by rw [hnx]; decide)) k r hk
     rw [hnx] at hn' hb
     have g1 := kp.get 17 (by rw [hnx]; decide)
     rw [hg] at g1
     have hn : ¬ h'.next < 17 := by omega
     have hn2 : ¬ h'.next = 17 := by omega
     have hr : asc r.uses = true := List.all_eq_true.1 kindT_asc r (List.mem_of_getElem? hk)
     have ho := rightV_one 19 r.right
     have key4 : ∀ tm h, ChkP h tm 17 31 19 k t u num imm size r → ∃ x s', exR (EV (tabL T)) (Rg 15 4) ⟨false, 71, tm, h⟩ = some (x, s') ∧ (x = .normal ∧ ∃ tm' h', s' = ⟨false, 71, tm', h'⟩ ∧ ChkP h' tm' 17 31 19 k t u num imm size r ∧
       tm'.get 5 = some (.bool (wrongB t (hasB r.uses [84]) || wrongB u (hasB r.uses [85])))) := fun tm h p => by
      obtain ⟨tm', h', e, kp, e1, e3, e5⟩ := check_types (tabL T) hxu hh hw h tm 17 31 19 k t u num imm size r hr p.c
      exact ⟨_, _, e, rfl, tm', h', rfl, p.kept kp e1 e3, e5⟩
     have key5 : ∀ tm h, ChkP h tm 17 31 19 k t u num imm size r ∧ tm.get 5 = some (.bool (wrongB t (hasB r.uses [84]) || wrongB u (hasB r.uses [85]))) → ∃ x s', exR (EV (tabL T)) (Rg 15 5) ⟨false, 71, tm, h⟩ = some (x, s') ∧ (x = .normal ∧ ∃ tm' h', s' = ⟨false, 71, tm', h'⟩ ∧ ChkP h' tm' 17 31 19 k t u num imm size r ∧
       tm'.get 5 = some (.bool (wrongB t (hasB r.uses [84]) || wrongB u (hasB r.uses [85]))) ∧ tm'.get 6 = some (.bool (spareB r.uses num imm size))) := fun tm h ⟨p, p5⟩ => by
      obtain ⟨tm', h', e, kp, e1, e3, e5, e6⟩ := check_spare (tabL T) hxu hh h tm 17 31 19 k t u num imm size r hr p.c
      exact ⟨_, _, e, rfl, tm', h', rfl, p.kept kp e1 e3, e5.trans p5, e6⟩
     simp only [insL] at e g1
     simp only [kindL] at e
     generalize he : callR _ _ _ _ = x
     rw [enter15 _ _ _ (hx _) rfl] at he
     simp only [sS, sevalprocAttr, r15_0, r15_1, r15_2, tT, sN, sM, ng_eq, tabL_ng, h0_next, e, g1, hn, hn2, hn', ho, Bool.not_true, Nat.reduceAdd] at he
     obtain ⟨x1, s1, ⟨rfl, tm1, h1, rfl, p1, q1⟩, he⟩ := use_run key4 (fun o => finish (EV (tabL T)) [ResultVar.tmp 2] (andThen o (exR (EV (tabL T)) (.seq (Rg 15 5) (.seq (Rg 15 6) .ret))))) he (by
      refine ⟨⟨?_, ?_, ?_, ?_, by decide, by decide, ?_, ?_⟩, ?_⟩
      ·simp only [Tr.get_set, Nat.reduceEqDiff, ↓reduceIte]
      ·simp only [Tr.get_set, Nat.reduceEqDiff, ↓reduceIte]
      ·simp only [H.get_push, H.get_put, H.next_push, H.next_put, hn', hn2, Nat.reduceEqDiff, Nat.reduceAdd, ↓reduceIte, g1, insL]
      ·simp only [H.get_push, H.get_put, H.next_push, H.next_put, hn', hn2, Nat.reduceEqDiff, Nat.reduceAdd, ↓reduceIte, g1, kindL]
      ·simp only [H.next_push, H.next_put, hn']; decide
      ·simp only [H.next_push, H.next_put, hn']; decide
      ·intro i n hr2
       have hb' := hb i n (kindT_below k r hk i n hr2)
       have hi : i < 11 := by
        have := (List.getElem?_eq_some_iff.1 (kindT_below k r hk i n hr2)).1
        simpa [kindBounds] using this
       refine ⟨?_, by omega, by simp only [H.next_push, H.next_put, hn']; omega⟩
       simp only [H.get_push, H.get_put, H.next_push, H.next_put, hn']
       rw [← hb']
       repeat rw [if_neg (by omega)])
     simp only [andThen_normal, exR_seq] at he
     obtain ⟨x2, s2, ⟨rfl, tm2, h2, rfl, p2, q2, q3⟩, he⟩ := use_run key5 (fun o => finish (EV (tabL T)) [ResultVar.tmp 2] (andThen o (exR (EV (tabL T)) (.seq (Rg 15 6) .ret)))) he ⟨p1, q1⟩
     simp only [andThen_normal, exR_seq] at he
     obtain ⟨tm3, h3, e3, k3, e4⟩ := check_last (tabL T) hxf hwh hR hE h2 tm2 17 31 19 k t u num imm size hnum r p2.c p2.below _ _ q2 q3
     rw [e3] at he
     simp only [sS, sevalprocAttr, e4] at he
     subst he
     exact ⟨_, rfl⟩
   ·cases hv
  ·cases hv
end Go.D
