/- The functions of the law, one after the other: what a run of D answers. -/
import Derived.Test.YtmjdhbenplpinaaGreatDoorWb
import Derived.Test.YtmjdhbenplpinaaGreatDoorFull
import Derived.Test.YtmjdhbenplpinaaGreatDoorW0
import Derived.Laws.RangeString
import Derived.Laws.RangeAny
import Derived.Laws.StructEq
namespace Go.D
open Go.Proofs
set_option maxRecDepth 100000
set_option linter.unusedVariables false
set_option linter.unusedSimpArgs false
def isDigitV : Spec
 | [.int .u8 c] => some (.bool (decide (48 ≤ c) && decide (c ≤ 57)))
 | _ => none
theorem f_isDigit {T : List (Nat × Spec)} (hT : Fine T) (hx : ∀ l, callExt (EV (tabL T)) 196 l = none) : Fine ((196, isDigitV) :: T) :=
 hT.step (F := Tryz.f196) (by kernel_rfl) (by kernel_rfl) hx fun args v hv => by
  unfold isDigitV at hv
  split at hv
  ·rename_i c
   cases hv
   refine ⟨rfl, rfl, ?_⟩
   generalize he : callR _ _ _ _ = r
   rw [enter196 _ _ _ (hx _) rfl] at he
   cases q1 : decide (48 ≤ c) <;>
   ·simp only [sS, sevalprocAttr, fF196, tT, iGeq, iLeq, ge_iff_le, q1] at he
    subst he
    exact ⟨_, rfl⟩
  ·cases hv
def numR (s : List UInt8) : Int × Bool :=
 if s = [] ∨ 15 < s.length ∨ (1 < s.length ∧ s.head? = some 48) then (0, false) else if s.all isD then ((valA 0 s : Nat), true) else (0, false)
def numV : Spec
 | [.string ⟨⟨s⟩⟩] => some (.tuple ⟨[.int .i64 (numR s).1, .bool (numR s).2]⟩)
 | _ => none
noncomputable def numLoop : Code := .loop (.seq (.seq (Rg 140 5) (.cond (Operand.tmp 26) .skip (Code.exit 0))) (.seq (.block 1 (.seq (.seq (Rg 140 7) (.cond (Operand.tmp 33) (.seq (Rg 140 8) .ret) .skip)) (Rg 140 9))) (Rg 140 6)))
abbrev IsDig (tab : Tab) : Prop := ∀ (c : Int) (h : H), callR (EV tab) 196 [.int .u8 c] h = some (.bool (decide (48 ≤ c) && decide (c ≤ 57)), h)
theorem isD_dec (c : UInt8) : (decide ((48 : Int) ≤ (c.toNat : Nat)) && decide (((c.toNat : Nat) : Int) ≤ 57)) = isD c := by
 unfold isD
 rw [Bool.eq_iff_iff]
 simp only [Bool.and_eq_true, decide_eq_true_eq]
 omega
theorem valA_app (a b : List UInt8) : ∀ n, valA n (a ++ b) = valA (valA n a) b := by
 induction a with
 | nil => intro n; rfl
 | cons c a ih => intro n; exact ih _
theorem valA_bound {l : List UInt8} (h : l.all isD = true) (hl : l.length ≤ 15) : valA 0 l < 1000000000000000 := by
 have := valA_lt l 0 h
 have h2 : 10 ^ l.length ≤ 10 ^ 15 := Nat.pow_le_pow_right (by decide) hl
 omega
theorem num_loop (tab : Tab) (hd : IsDig tab) (s : List UInt8) (hs : s.length ≤ 15) (h : H) :
  ∀ (k i : Nat) (tm : Tr Value), i + k = s.length → (s.take i).all isD = true → tm.get 0 = some (.string ⟨⟨s⟩⟩) → tm.get 4 = some (.int .i64 (valA 0 (s.take i) : Nat)) → tm.get 5 = some (.int .i64 i) →
  ∃ tm', (exR (EV tab) numLoop ⟨false, 43, tm, h⟩ = some (.exit 0, ⟨false, 43, tm', h⟩) ∧ s.all isD = true ∧ tm'.get 4 = some (.int .i64 (valA 0 s : Nat))) ∨
   (exR (EV tab) numLoop ⟨false, 43, tm, h⟩ = some (.ret, ⟨false, 43, tm', h⟩) ∧ s.all isD = false ∧ tm'.get 2 = some (.int .i64 0) ∧ tm'.get 3 = some (.bool false)) := by
 intro k
 have hsz : (ByteArray.mk ⟨s⟩).size = s.length := rfl
 induction k with
 | zero =>
  intro i tm hk ha t0 t4 t5
  have hi : ¬ i < s.length := by omega
  rw [List.take_of_length_le (by omega)] at ha t4
  generalize he : exR (EV tab) numLoop ⟨false, 43, tm, h⟩ = r
  rw [numLoop, exR_loop] at he
  simp only [sS, sevalprocAttr, fF140, tT, t0, t4, t5, iLss, hsz, Int.ofNat_lt, hi, decide_false] at he
  subst he
  exact ⟨_, .inl ⟨rfl, ha, by simp only [Tr.get_set, Nat.reduceEqDiff, ↓reduceIte, t4]⟩⟩
 | succ k ih =>
  intro i tm hk ha t0 t4 t5
  have hi : i < s.length := by omega
  have hget : s[i]? = some s[i] := by simp
  cases hc : isD s[i] with
  | false =>
   generalize he : exR (EV tab) numLoop ⟨false, 43, tm, h⟩ = r
   rw [numLoop, exR_loop] at he
   have hd' := hd (s[i].toNat : Nat) h
   rw [isD_dec, hc] at hd'
   simp only [sS, sevalprocAttr, fF140, tT, t0, t4, t5, iLss, hsz, Int.ofNat_lt, hi, decide_true, oIndex, indexD, Int.natCast_nonneg, Int.toNat_natCast, hget, hd', Bool.not_false] at he
   subst he
   refine ⟨_, .inr ⟨rfl, ?_, by simp only [Tr.get_set, Nat.reduceEqDiff, ↓reduceIte], by simp only [Tr.get_set, Nat.reduceEqDiff, ↓reduceIte]⟩⟩
   rw [List.all_eq_false]
   exact ⟨s[i], List.getElem_mem hi, by rw [hc]; decide⟩
  | true =>
   have htk : s.take (i + 1) = s.take i ++ [s[i]] := by rw [List.take_add_one, hget]; rfl
   have ha2 : (s.take (i + 1)).all isD = true := by rw [htk, List.all_append, ha]; simp [hc]
   have hv2 : valA 0 (s.take (i + 1)) = valA 0 (s.take i) * 10 + (s[i].toNat - 48) := by rw [htk, valA_app]; rfl
   have hbd := valA_bound ha2 (by rw [List.length_take]; omega)
   have hcc := hc
   simp only [isD, Bool.and_eq_true, decide_eq_true_eq] at hcc
   obtain ⟨tm1, e1, a0, a4, a5⟩ : ∃ tm1, exR (EV tab) numLoop ⟨false, 43, tm, h⟩ = exR (EV tab) numLoop ⟨false, 43, tm1, h⟩ ∧ tm1.get 0 = some (.string ⟨⟨s⟩⟩) ∧ tm1.get 4 = some (.int .i64 (valA 0 (s.take (i + 1)) : Nat)) ∧ tm1.get 5 = some (.int .i64 ((i + 1 : Nat) : Int)) := by
    generalize he : exR (EV tab) numLoop ⟨false, 43, tm, h⟩ = r
    rw [numLoop, exR_loop] at he
    have hd' := hd (s[i].toNat : Nat) h
    rw [isD_dec, hc] at hd'
    have m1 : iMul .i64 10 ((valA 0 (s.take i) : Nat) : Int) = some (.int .i64 ((10 * valA 0 (s.take i) : Nat) : Int)) := by
     unfold iMul
     rw [IntWalk.i64_in _ (by omega)]; rfl
    have m2 : iSub .u8 ((s[i].toNat : Nat) : Int) 48 = some (.int .u8 ((s[i].toNat - 48 : Nat) : Int)) := by
     unfold iSub
     rw [IntWalk.u8_in _ (by omega)]; congr 2; omega
    have m3 : IntKind.i64.wrap ((s[i].toNat - 48 : Nat) : Int) = ((s[i].toNat - 48 : Nat) : Int) := by rw [IntWalk.i64_in _ (by omega)]
    have m4 : iAdd .i64 ((10 * valA 0 (s.take i) : Nat) : Int) ((s[i].toNat - 48 : Nat) : Int) = some (.int .i64 ((valA 0 (s.take (i + 1)) : Nat) : Int)) := by
     unfold iAdd
     rw [IntWalk.i64_in _ (by omega), hv2]; congr 2; omega
    simp only [sS, sevalprocAttr, fF140, tT, t0, t4, t5, iLss, hsz, Int.ofNat_lt, hi, decide_true, oIndex, indexD, Int.natCast_nonneg, Int.toNat_natCast, hget, hd', Bool.not_true, m1, m2, m3, m4, add1 i (by omega)] at he
    subst he
    refine ⟨_, rfl, ?_, ?_, ?_⟩ <;> simp only [Tr.get_set, Nat.reduceEqDiff, ↓reduceIte, t0]
   obtain ⟨tm', h'⟩ := ih (i + 1) tm1 (by omega) ha2 a0 a4 a5
   rw [e1]
   exact ⟨tm', h'⟩
theorem numR_ok {s : List UInt8} (h : ¬ (s = [] ∨ 15 < s.length ∨ (1 < s.length ∧ s.head? = some 48))) : numR s = if s.all isD then (((valA 0 s : Nat) : Int), true) else (0, false) := by unfold numR; rw [if_neg h]
theorem f_num {T : List (Nat × Spec)} (hT : Fine T) (hx : ∀ l, callExt (EV (tabL T)) 140 l = none) (hd : IsDig (tabL T)) : Fine ((140, numV) :: T) :=
 hT.step (F := Tryz.f140) (by kernel_rfl) (by kernel_rfl) hx fun args v hv => by
  unfold numV at hv
  split at hv
  ·rename_i s
   cases hv
   refine ⟨rfl, rfl, ?_⟩
   have hsz : (ByteArray.mk ⟨s⟩).size = s.length := rfl
   generalize he : callR _ _ _ _ = r
   rw [enter140 _ _ _ (hx _) rfl] at he
   by_cases q : s = [] ∨ 15 < s.length ∨ (1 < s.length ∧ s.head? = some 48)
   ·have hr : numR s = (0, false) := by unfold numR; rw [if_pos q]
    rw [hr]
    cases s with
    | nil =>
     have k0 : (([] : List UInt8) == []) = true := rfl
     simp only [sS, sevalprocAttr, fF140, tT, binStr, strBin, sEql, bs_beq, k0] at he
     subst he
     exact ⟨_, rfl⟩
    | cons c d =>
     have k0 : ((c :: d) == ([] : List UInt8)) = false := rfl
     rcases q with q | q | ⟨q1, q2⟩
     ·cases q
     ·have d1 : decide ((15 : Int) < ((c :: d).length : Nat)) = true := decide_eq_true (by omega)
      simp only [List.length_cons] at d1
      simp only [sS, sevalprocAttr, fF140, tT, binStr, strBin, sEql, bs_beq, k0, hsz, iGtr, gt_iff_lt, d1] at he
      subst he
      exact ⟨_, rfl⟩
     ·have hc : c = 48 := by simpa using q2
      subst hc
      have d2 : decide ((1 : Int) < ((48 :: d).length : Nat)) = true := decide_eq_true (by omega)
      simp only [List.length_cons] at d2
      have i0 : (0 : Int) ≤ 0 := by decide
      have i1 : ((((48 : UInt8).toNat : Nat) : Int) == 48) = true := rfl
      cases d1 : decide ((15 : Int) < ((d.length + 1 : Nat) : Int)) <;>
      ·simp only [sS, sevalprocAttr, fF140, tT, binStr, strBin, sEql, bs_beq, k0, hsz, iGtr, gt_iff_lt, d1, d2, oIndex, indexD, i0, i1, iEql, Int.toNat_zero, List.getElem?_cons_zero] at he
       subst he
       exact ⟨_, rfl⟩
   ·rw [numR_ok q]
    have q1 : s ≠ [] := fun h => q (.inl h)
    have q2 : s.length ≤ 15 := by have : ¬ 15 < s.length := fun h => q (.inr (.inl h)); omega
    obtain ⟨c, d, rfl⟩ : ∃ c d, s = c :: d := by cases s with | nil => exact absurd rfl q1 | cons c d => exact ⟨c, d, rfl⟩
    have k0 : ((c :: d) == ([] : List UInt8)) = false := rfl
    have d1 : decide ((15 : Int) < ((c :: d).length : Nat)) = false := decide_eq_false (by omega)
    simp only [List.length_cons] at d1
    have i0 : (0 : Int) ≤ 0 := by decide
    have key := fun tm h (p : tm.get 0 = some (.string ⟨⟨c :: d⟩⟩) ∧ tm.get 4 = some (.int .i64 0) ∧ tm.get 5 = some (.int .i64 0)) => num_loop (tabL T) hd (c :: d) q2 h (c :: d).length 0 tm (by omega) rfl p.1 p.2.1 p.2.2
    have key2 : ∀ tm h, (tm.get 0 = some (.string ⟨⟨c :: d⟩⟩) ∧ tm.get 4 = some (.int .i64 0) ∧ tm.get 5 = some (.int .i64 0)) → ∃ x s', exR (EV (tabL T)) numLoop ⟨false, 43, tm, h⟩ = some (x, s') ∧
      ((x = .exit 0 ∧ ∃ tm', s' = ⟨false, 43, tm', h⟩ ∧ (c :: d).all isD = true ∧ tm'.get 4 = some (.int .i64 (valA 0 (c :: d) : Nat))) ∨ (x = .ret ∧ ∃ tm', s' = ⟨false, 43, tm', h⟩ ∧ (c :: d).all isD = false ∧ tm'.get 2 = some (.int .i64 0) ∧ tm'.get 3 = some (.bool false))) := fun tm h p => by
     obtain ⟨tm', ⟨e, a, b⟩ | ⟨e, a, b, b'⟩⟩ := key tm h p
     ·exact ⟨_, _, e, .inl ⟨rfl, tm', rfl, a, b⟩⟩
     ·exact ⟨_, _, e, .inr ⟨rfl, tm', rfl, a, b, b'⟩⟩
    have go : ∀ (x : Option (Value × H)) (tm : Tr Value), (tm.get 0 = some (.string ⟨⟨c :: d⟩⟩) ∧ tm.get 4 = some (.int .i64 0) ∧ tm.get 5 = some (.int .i64 0)) →
      finish (EV (tabL T)) [ResultVar.tmp 2, ResultVar.tmp 3] (andThen (unblock 0 (exR (EV (tabL T)) numLoop ⟨false, 43, tm, h0⟩)) (exR (EV (tabL T)) (.seq (Rg 140 10) .ret))) = x →
      ∃ h', x = some (.tuple ⟨[.int .i64 (if (c :: d).all isD then (((valA 0 (c :: d) : Nat) : Int), true) else (0, false)).1, .bool (if (c :: d).all isD then (((valA 0 (c :: d) : Nat) : Int), true) else (0, false)).2]⟩, h') := fun x tm p he => by
     obtain ⟨x1, s1, ⟨rfl, tm', rfl, a, b⟩ | ⟨rfl, tm', rfl, a, b, b'⟩, he⟩ := use_run key2 (fun o => finish (EV (tabL T)) [ResultVar.tmp 2, ResultVar.tmp 3] (andThen (unblock 0 o) (exR (EV (tabL T)) (.seq (Rg 140 10) .ret)))) he p
     ·rw [a]
      simp only [sS, sevalprocAttr, fF140, tT, b] at he
      subst he
      exact ⟨_, rfl⟩
     ·rw [a]
      simp only [sS, sevalprocAttr, fF140, tT, b, b'] at he
      subst he
      exact ⟨_, rfl⟩
    by_cases q3 : (1 : Int) < ((d.length + 1 : Nat) : Int)
    ·have d2 : decide ((1 : Int) < ((d.length + 1 : Nat) : Int)) = true := decide_eq_true q3
     have hc : c ≠ 48 := fun h => q (.inr (.inr ⟨by simp only [List.length_cons]; omega, by rw [h]; rfl⟩))
     have i1 : (((c.toNat : Nat) : Int) == 48) = false := by
      rw [beq_eq_false_iff_ne]; intro e; apply hc; apply UInt8.toNat_inj.1; show c.toNat = 48; omega
     simp only [sS, sevalprocAttr, r140_0, r140_1, r140_3, r140_4, tT, binStr, strBin, sEql, bs_beq, k0, hsz, iGtr, gt_iff_lt, d1, d2, oIndex, indexD, i0, i1, iEql, Int.toNat_zero, List.getElem?_cons_zero] at he
     exact go _ _ ⟨by simp only [Tr.get_set, Nat.reduceEqDiff, ↓reduceIte], by simp only [Tr.get_set, Nat.reduceEqDiff, ↓reduceIte], by simp only [Tr.get_set, Nat.reduceEqDiff, ↓reduceIte]⟩ he
    ·have d2 : decide ((1 : Int) < ((d.length + 1 : Nat) : Int)) = false := decide_eq_false q3
     simp only [sS, sevalprocAttr, r140_0, r140_1, r140_3, r140_4, tT, binStr, strBin, sEql, bs_beq, k0, hsz, iGtr, gt_iff_lt, d1, d2] at he
     exact go _ _ ⟨by simp only [Tr.get_set, Nat.reduceEqDiff, ↓reduceIte], by simp only [Tr.get_set, Nat.reduceEqDiff, ↓reduceIte], by simp only [Tr.get_set, Nat.reduceEqDiff, ↓reduceIte]⟩ he
  ·cases hv
def partsR : List UInt8 → Bool × Int × Int
 | [] => (false, 0, 6)
 | c :: d => if (c = 117 ∨ c = 105) ∧ d.length ≤ 3 then
   (if (numR d).2 = true then (c == 105, (numR d).1, if 64 < (numR d).1 ∨ (c = 105 ∧ (numR d).1 = 0) then 3 else 0) else (false, 0, 6))
  else (false, 0, 6)
theorem numR_dig {d : List UInt8} (h : d.length ≤ 15) : numR d = if digB d then (((valA 0 d : Nat) : Int), true) else (0, false) := by
 unfold numR digB
 cases d with
 | nil => rfl
 | cons c l =>
  by_cases q : (1 < (c :: l).length ∧ (c :: l).head? = some 48)
  ·rw [if_pos (.inr (.inr q))]
   obtain ⟨q1, q2⟩ := q
   have hc : c = 48 := by simpa using q2
   subst hc
   have hl : ((48 :: l : List UInt8) == [48]) = false := by
    cases l with
    | nil => simp at q1
    | cons => rfl
   rw [hl]
   simp
  ·rw [if_neg (fun hh => hh.elim (fun h1 => by cases h1) (fun hh => hh.elim (fun h1 => by omega) (fun h1 => q h1)))]
   have : ((c :: l : List UInt8) == [48] || (c :: l).head? != some 48) = true := by
    by_cases hc : c = 48
    ·subst hc
     have hl : l = [] := by
      cases l with
      | nil => rfl
      | cons a b => exact absurd ⟨by simp, rfl⟩ q
     subst hl; rfl
    ·have : ((c :: l).head? != some 48) = true := by simp [hc]
     rw [this, Bool.or_true]
   rw [this]
   simp
theorem parts_rd (s : List UInt8) : (partsR s).2.2 = (rdTy s).2.2 ∧ ((rdTy s).2.2 = 0 → (partsR s).1 = (rdTy s).2.1 ∧ (partsR s).2.1 = (rdTy s).1) := by
 cases s with
 | nil => exact ⟨rfl, fun h => by cases h⟩
 | cons c d =>
  by_cases h1 : c = 117 ∨ c = 105
  ·by_cases h2 : d.length ≤ 3
   ·have hn := numR_dig (d := d) (by omega)
    by_cases h3 : digB d = true
    ·rw [if_pos h3] at hn
     by_cases h4 : 64 < valA 0 d ∨ valA 0 d = 0 ∧ c = 105
     ·have e1 : rdTy (c :: d) = (0, false, 3) := by simp only [rdTy]; rw [if_pos ⟨h1, h3, h2⟩, if_pos h4]
      have h5 : 64 < ((valA 0 d : Nat) : Int) ∨ (c = 105 ∧ ((valA 0 d : Nat) : Int) = 0) := h4.elim (fun h => .inl (by omega)) (fun h => .inr ⟨h.2, by omega⟩)
      have e2 : partsR (c :: d) = (c == 105, ((valA 0 d : Nat) : Int), 3) := by simp only [partsR]; rw [if_pos ⟨h1, h2⟩, hn]; simp only [if_true]; rw [if_pos h5]
      rw [e1, e2]
      exact ⟨rfl, fun h => by cases h⟩
     ·have e1 : rdTy (c :: d) = (((valA 0 d : Nat) : Int), c == 105, 0) := by simp only [rdTy]; rw [if_pos ⟨h1, h3, h2⟩, if_neg h4]
      have h5 : ¬ (64 < ((valA 0 d : Nat) : Int) ∨ (c = 105 ∧ ((valA 0 d : Nat) : Int) = 0)) := fun h => h4 (h.elim (fun h => .inl (by omega)) (fun h => .inr ⟨by omega, h.1⟩))
      have e2 : partsR (c :: d) = (c == 105, ((valA 0 d : Nat) : Int), 0) := by simp only [partsR]; rw [if_pos ⟨h1, h2⟩, hn]; simp only [if_true]; rw [if_neg h5]
      rw [e1, e2]
      exact ⟨rfl, fun _ => ⟨rfl, rfl⟩⟩
    ·rw [if_neg h3] at hn
     have e1 : rdTy (c :: d) = (0, false, 6) := by simp only [rdTy]; rw [if_neg (fun h => h3 h.2.1)]
     have e2 : partsR (c :: d) = (false, 0, 6) := by simp only [partsR]; rw [if_pos ⟨h1, h2⟩, hn]; rfl
     rw [e1, e2]
     exact ⟨rfl, fun h => by cases h⟩
   ·have e1 : rdTy (c :: d) = (0, false, 6) := by simp only [rdTy]; rw [if_neg (fun h => h2 h.2.2)]
    have e2 : partsR (c :: d) = (false, 0, 6) := by simp only [partsR]; rw [if_neg (fun h => h2 h.2)]
    rw [e1, e2]
    exact ⟨rfl, fun h => by cases h⟩
  ·have e1 : rdTy (c :: d) = (0, false, 6) := by simp only [rdTy]; rw [if_neg (fun h => h1 h.1)]
   have e2 : partsR (c :: d) = (false, 0, 6) := by simp only [partsR]; rw [if_neg (fun h => h1 h.1)]
   rw [e1, e2]
   exact ⟨rfl, fun h => by cases h⟩
def partsV : Spec
 | [.string ⟨⟨s⟩⟩] => some (.tuple ⟨[.bool (partsR s).1, .int .i64 (partsR s).2.1, .int .i64 (partsR s).2.2]⟩)
 | _ => none
theorem slice_tail (tab : Tab) (h : H) (t : TypeId) (c : UInt8) (d : List UInt8) : sliceStr ⟨⟨c :: d⟩⟩ (some (.int .i64 1)) none none = some (.string ⟨⟨d⟩⟩) := by
 have k5 : (0 : Int) ≤ 1 ∧ (1 : Int) ≤ ((d.length + 1 : Nat) : Int) := ⟨by decide, by omega⟩
 have hsz : (ByteArray.mk ⟨c :: d⟩).size = d.length + 1 := rfl
 simp only [sliceStr, boundO, boundD, hsz, k5, and_self, if_true, Int.toNat_one]
 congr 2
 apply ByteArray.ext
 rw [ByteArray.data_extract]
 apply Array.toList_inj.1
 rw [Array.toList_extract]
 show (List.drop 1 (c :: d)).take (d.length + 1 - 1) = d
 simp
theorem f_parts {T : List (Nat × Spec)} (hT : Fine T) (hx : ∀ l, callExt (EV (tabL T)) 126 l = none)
  (h1 : ∀ s h, callR (EV (tabL T)) 140 [.string ⟨⟨s⟩⟩] h = some (.tuple ⟨[.int .i64 (numR s).1, .bool (numR s).2]⟩, h))
  (h2 : ∀ b e h, callR (EV (tabL T)) 65 [.bool b, .int .i64 e] h = some (.int .i64 (if b then e else 0), h)) : Fine ((126, partsV) :: T) :=
 hT.step (F := Tryz.f126) (by kernel_rfl) (by kernel_rfl) hx fun args v hv => by
  unfold partsV at hv
  split at hv
  ·rename_i s
   cases hv
   refine ⟨rfl, rfl, ?_⟩
   generalize he : callR _ _ _ _ = r
   rw [enter126 _ _ _ (hx _) rfl] at he
   cases s with
   | nil =>
    have k0 : (([] : List UInt8) == []) = true := rfl
    simp only [sS, sevalprocAttr, fF126, tT, sN, sM, ng_eq, tabL_ng, h0_next, binStr, strBin, sEql, bs_beq, k0] at he
    subst he
    exact ⟨_, rfl⟩
   | cons c d =>
    have k0 : ((c :: d) == ([] : List UInt8)) = false := rfl
    have hsz : (ByteArray.mk ⟨c :: d⟩).size = d.length + 1 := rfl
    have i0 : (0 : Int) ≤ 0 := by decide
    have st := slice_tail (tabL T) h0 9 c d
    simp only [partsR]
    by_cases q1 : c = 117 ∨ c = 105
    ·by_cases q2 : d.length ≤ 3
     ·rw [if_pos ⟨q1, q2⟩]
      have d1 : decide ((4 : Int) < ((d.length + 1 : Nat) : Int)) = false := decide_eq_false (by omega)
      cases q3 : (numR d).2 with
      | false =>
       rcases q1 with rfl | rfl <;>
       ·simp only [sS, sevalprocAttr, fF126, tT, sN, sM, ng_eq, tabL_ng, h0_next, binStr, strBin, sEql, bs_beq, k0, hsz, oIndex, indexD, i0, Int.toNat_zero, List.getElem?_cons_zero, iNeq, iEql, UInt8.reduceToNat, Int.cast_ofNat_Int, Int.reduceBNe, Int.reduceBEq, iGtr, gt_iff_lt, d1, oSlice, optO, sliceD, st, h1, q3, Bool.not_false] at he
        subst he
        exact ⟨_, rfl⟩
      | true =>
       have hbo : ∀ b : Prop, [Decidable b] → (if b then (3 : Int) else 0) = if decide b then 3 else 0 := fun b _ => by by_cases hb : b <;> simp [hb]
       rcases q1 with rfl | rfl
       ·have hp : decide (64 < (numR d).1 ∨ (117 : UInt8) = 105 ∧ (numR d).1 = 0) = decide (64 < (numR d).1) := by simp
        rw [hbo, hp]
        cases q4 : decide (64 < (numR d).1) <;>
        ·simp only [sS, sevalprocAttr, fF126, tT, sN, sM, ng_eq, tabL_ng, h0_next, binStr, strBin, sEql, bs_beq, k0, hsz, oIndex, indexD, i0, Int.toNat_zero, List.getElem?_cons_zero, iNeq, iEql, UInt8.reduceToNat, Int.cast_ofNat_Int, Int.reduceBNe, Int.reduceBEq, iGtr, gt_iff_lt, d1, oSlice, optO, sliceD, st, h1, h2, q3, q4, Bool.not_true] at he
         subst he
         exact ⟨_, rfl⟩
       ·have hp : decide (64 < (numR d).1 ∨ (105 : UInt8) = 105 ∧ (numR d).1 = 0) = (decide (64 < (numR d).1) || ((numR d).1 == 0)) := by
         rw [Bool.eq_iff_iff]; simp
        rw [hbo, hp]
        cases q4 : decide (64 < (numR d).1) <;>
        ·simp only [sS, sevalprocAttr, fF126, tT, sN, sM, ng_eq, tabL_ng, h0_next, binStr, strBin, sEql, bs_beq, k0, hsz, oIndex, indexD, i0, Int.toNat_zero, List.getElem?_cons_zero, iNeq, iEql, UInt8.reduceToNat, Int.cast_ofNat_Int, Int.reduceBNe, Int.reduceBEq, iGtr, gt_iff_lt, d1, oSlice, optO, sliceD, st, h1, h2, q3, q4, Bool.not_true] at he
         subst he
         exact ⟨_, rfl⟩
     ·rw [if_neg (fun h => q2 h.2)]
      have d1 : decide ((4 : Int) < ((d.length + 1 : Nat) : Int)) = true := decide_eq_true (by omega)
      rcases q1 with rfl | rfl <;>
      ·simp only [sS, sevalprocAttr, fF126, tT, sN, sM, ng_eq, tabL_ng, h0_next, binStr, strBin, sEql, bs_beq, k0, hsz, oIndex, indexD, i0, Int.toNat_zero, List.getElem?_cons_zero, iNeq, iEql, UInt8.reduceToNat, Int.cast_ofNat_Int, Int.reduceBNe, Int.reduceBEq, iGtr, gt_iff_lt, d1] at he
       subst he
       exact ⟨_, rfl⟩
    ·rw [if_neg (fun h => q1 h.1)]
     have c1 : (((c.toNat : Nat) : Int) != 117) = true := by
      rw [bne_iff_ne]; intro e; apply q1; left; apply UInt8.toNat_inj.1; show c.toNat = 117; omega
     have c2 : (((c.toNat : Nat) : Int) != 105) = true := by
      rw [bne_iff_ne]; intro e; apply q1; right; apply UInt8.toNat_inj.1; show c.toNat = 105; omega
     simp only [sS, sevalprocAttr, fF126, tT, sN, sM, ng_eq, tabL_ng, h0_next, binStr, strBin, sEql, bs_beq, k0, hsz, oIndex, indexD, i0, Int.toNat_zero, List.getElem?_cons_zero, iNeq, iEql, c1, c2] at he
     subst he
     exact ⟨_, rfl⟩
  ·cases hv
abbrev Parts (tab : Tab) : Prop := ∀ s h, callR (EV tab) 126 [.string ⟨⟨s⟩⟩] h = some (.tuple ⟨[.bool (partsR s).1, .int .i64 (partsR s).2.1, .int .i64 (partsR s).2.2]⟩, h)
def chkV : Spec
 | [.string ⟨⟨s⟩⟩] => some (.int .i64 (rdTy s).2.2)
 | _ => none
theorem f_check01 {T : List (Nat × Spec)} (hT : Fine T) (hx : ∀ l, callExt (EV (tabL T)) 125 l = none) (h1 : Parts (tabL T)) : Fine ((125, chkV) :: T) :=
 hT.step (F := Tryz.f125) (by kernel_rfl) (by kernel_rfl) hx fun args v hv => by
  unfold chkV at hv
  split at hv
  ·rename_i s
   cases hv
   refine ⟨rfl, rfl, ?_⟩
   generalize he : callR _ _ _ _ = r
   rw [enter125 _ _ _ (hx _) rfl] at he
   simp only [sS, sevalprocAttr, fF125, tT, sN, sM, ng_eq, tabL_ng, h0_next, h1 s, (parts_rd s).1] at he
   subst he
   exact ⟨_, rfl⟩
  ·cases hv
def width01V : Spec
 | [.string ⟨⟨s⟩⟩] => some (.tuple ⟨[.int .i64 (rdTy s).1, .bool (rdTy s).2.1, .int .i64 (rdTy s).2.2]⟩)
 | _ => none
theorem rdTy_bad (s : List UInt8) (h : (rdTy s).2.2 ≠ 0) : (rdTy s).1 = 0 ∧ (rdTy s).2.1 = false := by
 cases s with
 | nil => exact ⟨rfl, rfl⟩
 | cons c d =>
  simp only [rdTy] at h ⊢
  by_cases h1 : (c = 117 ∨ c = 105) ∧ digB d = true ∧ d.length ≤ 3
  ·rw [if_pos h1] at h ⊢
   by_cases h2 : 64 < valA 0 d ∨ valA 0 d = 0 ∧ c = 105
   ·rw [if_pos h2]; exact ⟨rfl, rfl⟩
   ·rw [if_neg h2] at h; exact absurd rfl h
  ·rw [if_neg h1]; exact ⟨rfl, rfl⟩
theorem f_width01 {T : List (Nat × Spec)} (hT : Fine T) (hx : ∀ l, callExt (EV (tabL T)) 103 l = none) (h1 : Parts (tabL T)) : Fine ((103, width01V) :: T) :=
 hT.step (F := Tryz.f103) (by kernel_rfl) (by kernel_rfl) hx fun args v hv => by
  unfold width01V at hv
  split at hv
  ·rename_i s
   cases hv
   refine ⟨rfl, rfl, ?_⟩
   generalize he : callR _ _ _ _ = r
   rw [enter103 _ _ _ (hx _) rfl] at he
   cases q : ((rdTy s).2.2 != 0) with
   | true =>
    simp only [sS, sevalprocAttr, fF103, tT, sN, sM, ng_eq, tabL_ng, h0_next, h1 s, (parts_rd s).1, iNeq, q] at he
    subst he
    have := rdTy_bad s (by simpa using q)
    rw [this.1, this.2]
    exact ⟨_, rfl⟩
   | false =>
    have q' : (rdTy s).2.2 = 0 := by simpa using q
    simp only [sS, sevalprocAttr, fF103, tT, sN, sM, ng_eq, tabL_ng, h0_next, h1 s, (parts_rd s).1, iNeq, q, ((parts_rd s).2 q').1, ((parts_rd s).2 q').2] at he
    subst he
    rw [q']
    exact ⟨_, rfl⟩
  ·cases hv
def widR : List UInt8 → Int × Bool
 | [] => (0, false)
 | c :: d => if (c = 117 ∨ c = 105) ∧ d ≠ [] then ((numR d).1, (numR d).2 && decide ((numR d).1 ≤ 64) && (decide (0 < (numR d).1) || c == 117)) else (0, false)
theorem valA_ge (l : List UInt8) : ∀ n, n * 10 ^ l.length ≤ valA n l := by
 induction l with
 | nil => intro n; show n * 10 ^ 0 ≤ n; omega
 | cons c l ih =>
  intro n
  have := ih (n * 10 + (c.toNat - 48))
  show n * 10 ^ (l.length + 1) ≤ valA (n * 10 + (c.toNat - 48)) l
  refine Nat.le_trans ?_ this
  rw [Nat.pow_succ, Nat.mul_comm (10 ^ l.length) 10, ← Nat.mul_assoc]
  exact Nat.mul_le_mul_right _ (by omega)
theorem digB_short {d : List UInt8} (h : digB d = true) (hv : valA 0 d ≤ 64) : d.length ≤ 3 := by
 cases d with
 | nil => exact Nat.zero_le _
 | cons c l =>
  have ha := (digB_ne h).1
  simp only [digB, Bool.and_eq_true, Bool.or_eq_true, beq_iff_eq, bne_iff_ne] at h
  rcases h.2 with h2 | h2
  ·rw [h2]; decide
  ·have hc : c ≠ 48 := fun e => h2 (by rw [e]; rfl)
   rw [List.all_cons, Bool.and_eq_true] at ha
   have hc2 := ha.1
   simp only [isD, Bool.and_eq_true, decide_eq_true_eq] at hc2
   have hc3 : c.toNat ≠ 48 := fun e => hc (UInt8.toNat_inj.1 e)
   have := valA_ge l (0 * 10 + (c.toNat - 48))
   have h3 : 1 * 10 ^ l.length ≤ (0 * 10 + (c.toNat - 48)) * 10 ^ l.length := Nat.mul_le_mul_right _ (by omega)
   have h4 : valA 0 (c :: l) = valA (0 * 10 + (c.toNat - 48)) l := rfl
   have h5 : 10 ^ l.length ≤ 64 := by omega
   have h6 : l.length < 2 := by
    by_cases h7 : l.length < 2
    ·exact h7
    ·have := Nat.pow_le_pow_right (n := 10) (by decide) (Nat.le_of_not_lt h7)
     omega
   rw [List.length_cons]; omega
theorem widR_rd (s : List UInt8) : (widR s).2 = isI s ∧ (isI s = true → (widR s).1 = (rdTy s).1) := by
 unfold isI
 cases s with
 | nil => exact ⟨rfl, fun h => by cases h⟩
 | cons c d =>
  by_cases h1 : c = 117 ∨ c = 105
  ·by_cases h2 : d = []
   ·subst h2
    have e1 : rdTy (c :: []) = (0, false, 6) := by simp only [rdTy]; rw [if_neg (fun h => by have := h.2.1; cases this)]
    have e2 : widR (c :: []) = (0, false) := by simp only [widR]; rw [if_neg (fun h => h.2 rfl)]
    rw [e1, e2]; exact ⟨rfl, fun h => by cases h⟩
   ·have e2 : widR (c :: d) = ((numR d).1, (numR d).2 && decide ((numR d).1 ≤ 64) && (decide (0 < (numR d).1) || c == 117)) := by simp only [widR]; rw [if_pos ⟨h1, h2⟩]
    rw [e2]
    by_cases h3 : d.length ≤ 15
    ·have hn := numR_dig h3
     by_cases h4 : digB d = true
     ·rw [if_pos h4] at hn
      rw [hn]
      by_cases h5 : 64 < valA 0 d ∨ valA 0 d = 0 ∧ c = 105
      ·by_cases h6 : d.length ≤ 3
       ·have e1 : rdTy (c :: d) = (0, false, 3) := by simp only [rdTy]; rw [if_pos ⟨h1, h4, h6⟩, if_pos h5]
        rw [e1]
        refine ⟨?_, fun h => by cases h⟩
        rcases h5 with h5 | ⟨h5, h7⟩
        ·have : decide (((valA 0 d : Nat) : Int) ≤ 64) = false := decide_eq_false (by omega)
         simp only [this, Bool.and_false, Bool.false_and]; rfl
        ·have : decide (0 < ((valA 0 d : Nat) : Int)) = false := decide_eq_false (by omega)
         subst h7
         simp only [this, Bool.false_or]
         rw [show ((105 : UInt8) == 117) = false from rfl, Bool.and_false]; rfl
       ·have e1 : rdTy (c :: d) = (0, false, 6) := by simp only [rdTy]; rw [if_neg (fun h => h6 h.2.2)]
        rw [e1]
        refine ⟨?_, fun h => by cases h⟩
        have h7 : 64 < valA 0 d := by
         by_cases h8 : valA 0 d ≤ 64
         ·exact absurd (digB_short h4 h8) h6
         ·omega
        have : decide (((valA 0 d : Nat) : Int) ≤ 64) = false := decide_eq_false (by omega)
        simp only [this, Bool.and_false, Bool.false_and]; rfl
      ·have h7 : valA 0 d ≤ 64 := by
        by_cases h8 : 64 < valA 0 d
        ·exact absurd (.inl h8) h5
        ·omega
       have e1 : rdTy (c :: d) = (((valA 0 d : Nat) : Int), c == 105, 0) := by simp only [rdTy]; rw [if_pos ⟨h1, h4, digB_short h4 h7⟩, if_neg h5]
       rw [e1]
       refine ⟨?_, fun _ => rfl⟩
       have d1 : decide (((valA 0 d : Nat) : Int) ≤ 64) = true := decide_eq_true (by omega)
       simp only [d1, Bool.and_self, Bool.true_and]
       rcases h1 with rfl | rfl
       ·rw [show ((117 : UInt8) == 117) = true from rfl, Bool.or_true]; rfl
       ·have d2 : decide (0 < ((valA 0 d : Nat) : Int)) = true := decide_eq_true (by
         by_cases h8 : valA 0 d = 0
         ·exact absurd (.inr ⟨h8, rfl⟩) h5
         ·omega)
        rw [d2]; rfl
     ·rw [if_neg h4] at hn
      have e1 : rdTy (c :: d) = (0, false, 6) := by simp only [rdTy]; rw [if_neg (fun h => h4 h.2.1)]
      rw [e1, hn]; exact ⟨rfl, fun h => by cases h⟩
    ·have hn : numR d = (0, false) := by unfold numR; rw [if_pos (.inr (.inl (by omega)))]
     have e1 : rdTy (c :: d) = (0, false, 6) := by simp only [rdTy]; rw [if_neg (fun h => h3 (by omega))]
     rw [e1, hn]; exact ⟨rfl, fun h => by cases h⟩
  ·have e1 : rdTy (c :: d) = (0, false, 6) := by simp only [rdTy]; rw [if_neg (fun h => h1 h.1)]
   have e2 : widR (c :: d) = (0, false) := by simp only [widR]; rw [if_neg (fun h => h1 h.1)]
   rw [e1, e2]; exact ⟨rfl, fun h => by cases h⟩
def wid12V : Spec
 | [.string ⟨⟨s⟩⟩] => some (.tuple ⟨[.int .i64 (widR s).1, .bool (widR s).2]⟩)
 | _ => none
theorem f_wid12 {T : List (Nat × Spec)} (hT : Fine T) (hx : ∀ l, callExt (EV (tabL T)) 118 l = none)
  (h1 : ∀ s h, callR (EV (tabL T)) 140 [.string ⟨⟨s⟩⟩] h = some (.tuple ⟨[.int .i64 (numR s).1, .bool (numR s).2]⟩, h)) : Fine ((118, wid12V) :: T) :=
 hT.step (F := Tryz.f118) (by kernel_rfl) (by kernel_rfl) hx fun args v hv => by
  unfold wid12V at hv
  split at hv
  ·rename_i s
   cases hv
   refine ⟨rfl, rfl, ?_⟩
   generalize he : callR _ _ _ _ = r
   rw [enter118 _ _ _ (hx _) rfl] at he
   have i0 : (0 : Int) ≤ 0 := by decide
   cases s with
   | nil =>
    have d1 : decide ((([] : List UInt8).length : Int) < 2) = true := rfl
    have hsz : (ByteArray.mk ⟨([] : List UInt8)⟩).size = 0 := rfl
    simp only [sS, sevalprocAttr, fF118, tT, sN, sM, ng_eq, tabL_ng, h0_next, hsz, iLss, (by decide : decide (((0 : Nat) : Int) < 2) = true), Int.cast_ofNat_Int, Int.reduceLT, decide_true] at he
    subst he
    exact ⟨_, rfl⟩
   | cons c d =>
    have hsz : (ByteArray.mk ⟨c :: d⟩).size = d.length + 1 := rfl
    have st := slice_tail (tabL T) h0 9 c d
    by_cases q1 : d = []
    ·subst q1
     have d1 : decide (((([] : List UInt8).length + 1 : Nat) : Int) < 2) = true := rfl
     have e2 : widR (c :: []) = (0, false) := by simp only [widR]; rw [if_neg (fun h => h.2 rfl)]
     rw [e2]
     simp only [List.length_nil, Nat.zero_add] at hsz d1
     simp only [sS, sevalprocAttr, fF118, tT, sN, sM, ng_eq, tabL_ng, h0_next, hsz, iLss, d1, Int.cast_ofNat_Int, Int.reduceLT, decide_true] at he
     subst he
     exact ⟨_, rfl⟩
    ·have hl : 0 < d.length := List.length_pos_iff.2 q1
     have d1 : decide (((d.length + 1 : Nat) : Int) < 2) = false := decide_eq_false (by omega)
     by_cases q2 : c = 117 ∨ c = 105
     ·have e2 : widR (c :: d) = ((numR d).1, (numR d).2 && decide ((numR d).1 ≤ 64) && (decide (0 < (numR d).1) || c == 117)) := by simp only [widR]; rw [if_pos ⟨q2, q1⟩]
      rw [e2]
      rcases q2 with rfl | rfl
      ·cases q3 : (numR d).2 <;> cases q4 : decide ((numR d).1 ≤ 64) <;> cases q5 : decide (0 < (numR d).1) <;>
       ·simp only [sS, sevalprocAttr, fF118, tT, sN, sM, ng_eq, tabL_ng, h0_next, hsz, iLss, d1, oIndex, indexD, i0, Int.toNat_zero, List.getElem?_cons_zero, iNeq, iEql, UInt8.reduceToNat, Int.cast_ofNat_Int, Int.reduceBNe, Int.reduceBEq, iGtr, gt_iff_lt, iLeq, oSlice, optO, sliceD, st, h1, q3, q4, q5] at he
        subst he
        exact ⟨_, rfl⟩
      ·cases q3 : (numR d).2 <;> cases q4 : decide ((numR d).1 ≤ 64) <;> cases q5 : decide (0 < (numR d).1) <;>
       ·simp only [sS, sevalprocAttr, fF118, tT, sN, sM, ng_eq, tabL_ng, h0_next, hsz, iLss, d1, oIndex, indexD, i0, Int.toNat_zero, List.getElem?_cons_zero, iNeq, iEql, UInt8.reduceToNat, Int.cast_ofNat_Int, Int.reduceBNe, Int.reduceBEq, iGtr, gt_iff_lt, iLeq, oSlice, optO, sliceD, st, h1, q3, q4, q5] at he
        subst he
        exact ⟨_, rfl⟩
     ·have e2 : widR (c :: d) = (0, false) := by simp only [widR]; rw [if_neg (fun h => q2 h.1)]
      rw [e2]
      have c1 : (((c.toNat : Nat) : Int) != 117) = true := by
       rw [bne_iff_ne]; intro e; apply q2; left; apply UInt8.toNat_inj.1; show c.toNat = 117; omega
      have c2 : (((c.toNat : Nat) : Int) != 105) = true := by
       rw [bne_iff_ne]; intro e; apply q2; right; apply UInt8.toNat_inj.1; show c.toNat = 105; omega
      simp only [sS, sevalprocAttr, fF118, tT, sN, sM, ng_eq, tabL_ng, h0_next, hsz, iLss, d1, oIndex, indexD, i0, Int.toNat_zero, List.getElem?_cons_zero, iNeq, c1, c2] at he
      subst he
      exact ⟨_, rfl⟩
  ·cases hv
abbrev WidR (tab : Tab) : Prop := ∀ s h, callR (EV tab) 118 [.string ⟨⟨s⟩⟩] h = some (.tuple ⟨[.int .i64 (widR s).1, .bool (widR s).2]⟩, h)
def sizeR (s : List UInt8) : Int × Int := if s = F32 then (4, 0) else if s = F64 ∨ s = PTR then (8, 0) else if isI s then (((rdTy s).1 + 7).tdiv 8, 0) else (0, 12)
def size12V : Spec
 | [.string ⟨⟨s⟩⟩] => some (.tuple ⟨[.int .i64 (sizeR s).1, .int .i64 (sizeR s).2]⟩)
 | _ => none
theorem f_size12 {T : List (Nat × Spec)} (hT : Fine T) (hx : ∀ l, callExt (EV (tabL T)) 90 l = none) (h1 : WidR (tabL T)) : Fine ((90, size12V) :: T) :=
 hT.step (F := Tryz.f90) (by kernel_rfl) (by kernel_rfl) hx fun args v hv => by
  unfold size12V at hv
  split at hv
  ·rename_i s
   cases hv
   refine ⟨rfl, rfl, ?_⟩
   generalize he : callR _ _ _ _ = r
   rw [enter90 _ _ _ (hx _) rfl] at he
   have k1 : (([102, 54, 52] : List UInt8) == [102, 51, 50]) = false := rfl
   have k2 : (([112, 116, 114] : List UInt8) == [102, 51, 50]) = false := rfl
   have k3 : (([112, 116, 114] : List UInt8) == [102, 54, 52]) = false := rfl
   unfold sizeR
   by_cases q1 : s = F32
   ·subst q1
    simp only [sS, sevalprocAttr, fF90, tT, sN, sM, ng_eq, tabL_ng, h0_next, binStr, strBin, sEql, bs_beq, F32, F64, PTR, k1, k2, k3] at he
    subst he
    exact ⟨_, rfl⟩
   ·rw [if_neg q1]
    by_cases q2 : s = F64 ∨ s = PTR
    ·rw [if_pos q2]
     rcases q2 with rfl | rfl <;>
     ·simp only [sS, sevalprocAttr, fF90, tT, sN, sM, ng_eq, tabL_ng, h0_next, binStr, strBin, sEql, bs_beq, F32, F64, PTR, k1, k2, k3] at he
      subst he
      exact ⟨_, rfl⟩
    ·rw [if_neg q2]
     have b1 : (s == [102, 51, 50]) = false := beq_eq_false_iff_ne.2 q1
     have b2 : (s == [102, 54, 52]) = false := beq_eq_false_iff_ne.2 (fun h => q2 (.inl h))
     have b3 : (s == [112, 116, 114]) = false := beq_eq_false_iff_ne.2 (fun h => q2 (.inr h))
     cases q3 : isI s with
     | true =>
      have w := rdTy_le s
      have m1 : iAdd .i64 (rdTy s).1 7 = some (.int .i64 ((rdTy s).1 + 7)) := by unfold iAdd; rw [IntWalk.i64_in _ (by omega)]
      have m2 : iQuo .i64 ((rdTy s).1 + 7) 8 = some (.int .i64 (((rdTy s).1 + 7).tdiv 8)) := by
       unfold iQuo; rw [if_neg (by decide), IntWalk.i64_in _ ?_]
       rw [Int.tdiv_eq_ediv_of_nonneg (by omega)]; omega
      simp only [sS, sevalprocAttr, fF90, tT, sN, sM, ng_eq, tabL_ng, h0_next, binStr, strBin, sEql, bs_beq, b1, b2, b3, h1 s, (widR_rd s).1, (widR_rd s).2 q3, q3, Bool.not_true, m1, m2] at he
      subst he
      exact ⟨_, rfl⟩
     | false =>
      simp only [sS, sevalprocAttr, fF90, tT, sN, sM, ng_eq, tabL_ng, h0_next, binStr, strBin, sEql, bs_beq, b1, b2, b3, h1 s, (widR_rd s).1, q3, Bool.not_false] at he
      subst he
      exact ⟨_, rfl⟩
  ·cases hv
theorem isI_ne {s : List UInt8} (h : isI s = true) : s ≠ F32 ∧ s ≠ F64 ∧ s ≠ PTR ∧ s ≠ [] := by
 refine ⟨?_, ?_, ?_, ?_⟩ <;> (rintro rfl; exact absurd h (by decide))
def bits12V : Spec
 | [.string ⟨⟨s⟩⟩] => if isI s then some (.int .i64 (rdTy s).1) else none
 | _ => none
theorem f_bits12 {T : List (Nat × Spec)} (hT : Fine T) (hx : ∀ l, callExt (EV (tabL T)) 91 l = none) (h1 : WidR (tabL T)) : Fine ((91, bits12V) :: T) :=
 hT.step (F := Tryz.f91) (by kernel_rfl) (by kernel_rfl) hx fun args v hv => by
  unfold bits12V at hv
  split at hv
  ·rename_i s
   split at hv
   ·rename_i q3
    cases hv
    refine ⟨rfl, rfl, ?_⟩
    generalize he : callR _ _ _ _ = r
    rw [enter91 _ _ _ (hx _) rfl] at he
    have b1 : (s == [102, 51, 50]) = false := beq_eq_false_iff_ne.2 (isI_ne q3).1
    have b2 : (s == [102, 54, 52]) = false := beq_eq_false_iff_ne.2 (isI_ne q3).2.1
    have b3 : (s == [112, 116, 114]) = false := beq_eq_false_iff_ne.2 (isI_ne q3).2.2.1
    simp only [sS, sevalprocAttr, fF91, tT, sN, sM, ng_eq, tabL_ng, h0_next, binStr, strBin, sEql, bs_beq, b1, b2, b3, h1 s, (widR_rd s).1, (widR_rd s).2 q3, q3] at he
    subst he
    exact ⟨_, rfl⟩
   ·cases hv
  ·cases hv
theorem f_code24 {T : List (Nat × Spec)} (hT : Fine T) (hx : ∀ l, callExt (EV (tabL T)) 56 l = none)
  (h1 : ∀ s h, callR (EV (tabL T)) 90 [.string ⟨⟨s⟩⟩] h = some (.tuple ⟨[.int .i64 (sizeR s).1, .int .i64 (sizeR s).2]⟩, h))
  (h2 : ∀ s h, isI s = true → callR (EV (tabL T)) 91 [.string ⟨⟨s⟩⟩] h = some (.int .i64 (rdTy s).1, h)) : Fine ((56, codeV) :: T) :=
 hT.step (F := Tryz.f56) (by kernel_rfl) (by kernel_rfl) hx fun args v hv => by
  unfold codeV at hv
  split at hv
  ·rename_i s
   cases hv
   refine ⟨rfl, rfl, ?_⟩
   generalize he : callR _ _ _ _ = r
   rw [enter56 _ _ _ (hx _) rfl] at he
   unfold codeT
   have k1 : (([102, 54, 52] : List UInt8) == [102, 51, 50]) = false := rfl
   have k2 : (([112, 116, 114] : List UInt8) == [102, 51, 50]) = false := rfl
   have k3 : (([112, 116, 114] : List UInt8) == [102, 54, 52]) = false := rfl
   have k4 : (([102, 51, 50] : List UInt8) == []) = false := rfl
   have k5 : (([102, 54, 52] : List UInt8) == []) = false := rfl
   have k6 : (([112, 116, 114] : List UInt8) == []) = false := rfl
   have j0 : ((0 : Int) != 0) = false := rfl
   have j1 : ((12 : Int) != 0) = true := rfl
   by_cases q : s = F32 ∨ s = F64 ∨ s = PTR ∨ s = []
   ·rcases q with rfl | rfl | rfl | rfl <;>
    ·simp only [sS, sevalprocAttr, fF56, tT, sN, sM, ng_eq, tabL_ng, h0_next, binStr, strBin, sEql, bs_beq, F32, F64, PTR, k1, k2, k3, k4, k5, k6] at he
     subst he
     exact ⟨_, rfl⟩
   ·have q1 : s ≠ F32 := fun e => q (.inl e)
    have q2 : s ≠ F64 := fun e => q (.inr (.inl e))
    have q3 : s ≠ PTR := fun e => q (.inr (.inr (.inl e)))
    have q4 : s ≠ [] := fun e => q (.inr (.inr (.inr e)))
    rw [if_neg q1, if_neg q2, if_neg q3, if_neg q4]
    have b1 : (s == [102, 51, 50]) = false := beq_eq_false_iff_ne.2 q1
    have b2 : (s == [102, 54, 52]) = false := beq_eq_false_iff_ne.2 q2
    have b3 : (s == [112, 116, 114]) = false := beq_eq_false_iff_ne.2 q3
    have b4 : (s == []) = false := beq_eq_false_iff_ne.2 q4
    have ho : opsW s = ((rdTy s).1, if isI s then 0 else 12) := by
     unfold opsW; rw [if_neg q1, if_neg q2, if_neg q3]
     unfold isI
     by_cases h : (rdTy s).2.2 = 0
     ·rw [if_pos h, h]; rfl
     ·rw [if_neg h, if_neg (by simpa using h)]
    have hs : sizeR s = if isI s then (((rdTy s).1 + 7).tdiv 8, 0) else (0, 12) := by
     unfold sizeR; rw [if_neg q1, if_neg (fun h => h.elim q2 q3)]
    rw [ho]
    cases q5 : isI s with
    | true =>
     rw [q5] at hs
     simp only [if_true] at hs ⊢
     obtain ⟨c, d, rfl⟩ : ∃ c d, s = c :: d := by cases s with | nil => exact absurd rfl q4 | cons c d => exact ⟨c, d, rfl⟩
     have i0 : (0 : Int) ≤ 0 := by decide
     have e2 := fun h => h2 (c :: d) h q5
     have m1 : iAdd .i64 64 (rdTy (c :: d)).1 = some (.int .i64 ((rdTy (c :: d)).1 + 64)) := by
      have := rdTy_le (c :: d)
      unfold iAdd; rw [IntWalk.i64_in _ (by omega)]; congr 2; omega
     cases hc : (c == 105) with
     | true =>
      have hc' : c = 105 := by simpa using hc
      subst hc'
      have i1 : ((((105 : UInt8).toNat : Nat) : Int) == 105) = true := rfl
      simp only [sS, sevalprocAttr, fF56, tT, sN, sM, ng_eq, tabL_ng, h0_next, binStr, strBin, sEql, bs_beq, b1, b2, b3, b4, h1, hs, e2, oIndex, indexD, i0, i1, j0, iNeq, iEql, Int.toNat_zero, List.getElem?_cons_zero, m1] at he
      subst he
      exact ⟨_, rfl⟩
     | false =>
      have hc' : c ≠ 105 := by simpa using hc
      have i1 : (((c.toNat : Nat) : Int) == 105) = false := by
       rw [beq_eq_false_iff_ne]; intro e; apply hc'; apply UInt8.toNat_inj.1; show c.toNat = 105; omega
      simp only [sS, sevalprocAttr, fF56, tT, sN, sM, ng_eq, tabL_ng, h0_next, binStr, strBin, sEql, bs_beq, b1, b2, b3, b4, h1, hs, e2, oIndex, indexD, i0, i1, j0, iNeq, iEql, Int.toNat_zero, List.getElem?_cons_zero] at he
      subst he
      rw [show (if (c :: d).head? = some 105 then (64 : Int) else 0) = 0 by rw [if_neg]; intro h; exact hc' (Option.some.inj h), Int.add_zero]
      exact ⟨_, rfl⟩
    | false =>
     rw [q5] at hs
     simp only [Bool.false_eq_true, if_false] at hs ⊢
     simp only [sS, sevalprocAttr, fF56, tT, sN, sM, ng_eq, tabL_ng, h0_next, binStr, strBin, sEql, bs_beq, b1, b2, b3, b4, h1, hs, iNeq, j1] at he
     subst he
     exact ⟨_, rfl⟩
  ·cases hv
def typesV : Spec
 | [.string ⟨⟨s⟩⟩, .bool u] => some (.int .i64 (if wrongB s u then 12 else 0))
 | _ => none
theorem f_types {T : List (Nat × Spec)} (hT : Fine T) (hx : ∀ l, callExt (EV (tabL T)) 40 l = none)
  (h1 : ∀ s h, callR (EV (tabL T)) 56 [.string ⟨⟨s⟩⟩] h = some (.tuple ⟨[.int .i64 (codeT s).1, .int .i64 (codeT s).2]⟩, h))
  (h2 : ∀ b e h, callR (EV (tabL T)) 65 [.bool b, .int .i64 e] h = some (.int .i64 (if b then e else 0), h)) : Fine ((40, typesV) :: T) :=
 hT.step (F := Tryz.f40) (by kernel_rfl) (by kernel_rfl) hx fun args v hv => by
  unfold typesV at hv
  split at hv
  ·rename_i s u
   cases hv
   refine ⟨rfl, rfl, ?_⟩
   generalize he : callR _ _ _ _ = r
   rw [enter40 _ _ _ (hx _) rfl] at he
   unfold wrongB
   cases q1 : ((codeT s).2 != 0) with
   | true =>
    simp only [sS, sevalprocAttr, fF40, tT, sN, sM, ng_eq, tabL_ng, h0_next, h1, h2, iNeq, q1] at he
    subst he
    exact ⟨_, rfl⟩
   | false =>
    cases q2 : (s == []) <;> cases u <;>
    ·simp only [sS, sevalprocAttr, fF40, tT, sN, sM, ng_eq, tabL_ng, h0_next, h1, h2, iNeq, q1, q2, binStr, strBin, sEql, bs_beq, eqBin, eqOut, eqD, beq_ft, beq_tf, beq_self_eq_true, if_true] at he
     subst he
     exact ⟨_, rfl⟩
  ·cases hv
def isIntV : Spec
 | [.string ⟨⟨s⟩⟩] => some (.bool (isI s))
 | _ => none
theorem f_isInt {T : List (Nat × Spec)} (hT : Fine T) (hx : ∀ l, callExt (EV (tabL T)) 102 l = none)
  (h1 : ∀ s h, callR (EV (tabL T)) 125 [.string ⟨⟨s⟩⟩] h = some (.int .i64 (rdTy s).2.2, h)) : Fine ((102, isIntV) :: T) :=
 hT.step (F := Tryz.f102) (by kernel_rfl) (by kernel_rfl) hx fun args v hv => by
  unfold isIntV at hv
  split at hv
  ·rename_i s
   cases hv
   refine ⟨rfl, rfl, ?_⟩
   generalize he : callR _ _ _ _ = r
   rw [enter102 _ _ _ (hx _) rfl] at he
   simp only [sS, sevalprocAttr, fF102, tT, sN, sM, ng_eq, tabL_ng, h0_next, h1, iEql] at he
   subst he
   exact ⟨_, rfl⟩
  ·cases hv
theorem f_isFloat11 {T : List (Nat × Spec)} (hT : Fine T) (hx : ∀ l, callExt (EV (tabL T)) 101 l = none) : Fine ((101, isFloatV) :: T) :=
 hT.step (F := Tryz.f101) (by kernel_rfl) (by kernel_rfl) hx fun args v hv => by
  unfold isFloatV at hv
  split at hv
  ·rename_i s
   cases hv
   refine ⟨rfl, rfl, ?_⟩
   generalize he : callR _ _ _ _ = r
   rw [enter101 _ _ _ (hx _) rfl] at he
   unfold isFloatB F32 F64
   cases q1 : (s == [102, 51, 50]) <;>
   ·simp only [sS, sevalprocAttr, fF101, tT, sN, sM, ng_eq, tabL_ng, h0_next, binStr, strBin, sEql, bs_beq, q1] at he
    subst he
    exact ⟨_, rfl⟩
  ·cases hv
def width11 (s : List UInt8) : Int × Int := if s = F32 then (32, 0) else if s = F64 ∨ s = PTR then (64, 0) else if isI s then ((rdTy s).1, 0) else (0, 12)
def width11V : Spec
 | [.string ⟨⟨s⟩⟩] => some (.tuple ⟨[.int .i64 (width11 s).1, .int .i64 (width11 s).2]⟩)
 | _ => none
theorem f_width11 {T : List (Nat × Spec)} (hT : Fine T) (hx : ∀ l, callExt (EV (tabL T)) 104 l = none)
  (h1 : ∀ s h, callR (EV (tabL T)) 103 [.string ⟨⟨s⟩⟩] h = some (.tuple ⟨[.int .i64 (rdTy s).1, .bool (rdTy s).2.1, .int .i64 (rdTy s).2.2]⟩, h)) : Fine ((104, width11V) :: T) :=
 hT.step (F := Tryz.f104) (by kernel_rfl) (by kernel_rfl) hx fun args v hv => by
  unfold width11V at hv
  split at hv
  ·rename_i s
   cases hv
   refine ⟨rfl, rfl, ?_⟩
   generalize he : callR _ _ _ _ = r
   rw [enter104 _ _ _ (hx _) rfl] at he
   have k1 : (([102, 54, 52] : List UInt8) == [102, 51, 50]) = false := rfl
   have k2 : (([112, 116, 114] : List UInt8) == [102, 51, 50]) = false := rfl
   have k3 : (([112, 116, 114] : List UInt8) == [102, 54, 52]) = false := rfl
   unfold width11
   by_cases q1 : s = F32
   ·subst q1
    simp only [sS, sevalprocAttr, fF104, tT, sN, sM, ng_eq, tabL_ng, h0_next, binStr, strBin, sEql, bs_beq, F32, F64, PTR, k1, k2, k3] at he
    subst he
    exact ⟨_, rfl⟩
   ·rw [if_neg q1]
    by_cases q2 : s = F64 ∨ s = PTR
    ·rw [if_pos q2]
     rcases q2 with rfl | rfl <;>
     ·simp only [sS, sevalprocAttr, fF104, tT, sN, sM, ng_eq, tabL_ng, h0_next, binStr, strBin, sEql, bs_beq, F32, F64, PTR, k1, k2, k3] at he
      subst he
      exact ⟨_, rfl⟩
    ·rw [if_neg q2]
     have b1 : (s == [102, 51, 50]) = false := beq_eq_false_iff_ne.2 q1
     have b2 : (s == [102, 54, 52]) = false := beq_eq_false_iff_ne.2 (fun h => q2 (.inl h))
     have b3 : (s == [112, 116, 114]) = false := beq_eq_false_iff_ne.2 (fun h => q2 (.inr h))
     unfold isI
     cases q3 : ((rdTy s).2.2 == 0) with
     | true =>
      have q4 : ((rdTy s).2.2 != 0) = false := by rw [bne, q3]; rfl
      simp only [sS, sevalprocAttr, fF104, tT, sN, sM, ng_eq, tabL_ng, h0_next, binStr, strBin, sEql, bs_beq, b1, b2, b3, h1, iNeq, q4] at he
      subst he
      exact ⟨_, rfl⟩
     | false =>
      have q4 : ((rdTy s).2.2 != 0) = true := by rw [bne, q3]; rfl
      simp only [sS, sevalprocAttr, fF104, tT, sN, sM, ng_eq, tabL_ng, h0_next, binStr, strBin, sEql, bs_beq, b1, b2, b3, h1, iNeq, q4] at he
      subst he
      exact ⟨_, rfl⟩
  ·cases hv
def form11V : Spec
 | [.int .i64 op] => if 0 ≤ op ∧ op < 70 then some (.int .i64 (formN op.toNat)) else none
 | _ => none
theorem f_form11 {T : List (Nat × Spec)} (hT : Fine T) (hx : ∀ l, callExt (EV (tabL T)) 100 l = none) : Fine ((100, form11V) :: T) :=
 hT.step (F := Tryz.f100) (by kernel_rfl) (by kernel_rfl) hx fun args v hv => by
  unfold form11V at hv
  split at hv
  ·rename_i op
   split at hv
   ·rename_i hr
    cases hv
    refine ⟨rfl, rfl, ?_⟩
    obtain ⟨n, rfl⟩ : ∃ n : Nat, op = n := ⟨op.toNat, by omega⟩
    simp only [Int.toNat_natCast]
    have hn : n < 70 := by omega
    generalize he : callR _ _ _ _ = r
    rw [enter100 _ _ _ (hx _) rfl] at he
    match n, hn with
    | 0, _ | 1, _ | 2, _ | 3, _ | 4, _ | 5, _ | 6, _ | 7, _ | 8, _ | 9, _ | 10, _ | 11, _ | 12, _ | 13, _ | 14, _ | 15, _ | 16, _ | 17, _ | 18, _ | 19, _ | 20, _ | 21, _ | 22, _ | 23, _ | 24, _ | 25, _ | 26, _ | 27, _ | 28, _ | 29, _ | 30, _ | 31, _ | 32, _ | 33, _ | 34, _ | 35, _ | 36, _ | 37, _ | 38, _ | 39, _ | 40, _ | 41, _ | 42, _ | 43, _ | 44, _ | 45, _ | 46, _ | 47, _ | 48, _ | 49, _ | 50, _ | 51, _ | 52, _ | 53, _ | 54, _ | 55, _ | 56, _ | 57, _ | 58, _ | 59, _ | 60, _ | 61, _ | 62, _ | 63, _ | 64, _ | 65, _ | 66, _ | 67, _ | 68, _ | 69, _ =>
     simp only [sS, sevalprocAttr, fF100, tT, sN, sM, ng_eq, tabL_ng, h0_next, iEql, iGeq, iLeq, ge_iff_le, Int.cast_ofNat_Int, Int.reduceBEq, Int.reduceLE, decide_true, decide_false] at he
     subst he
     exact ⟨_, rfl⟩
   ·cases hv
  ·cases hv
theorem f_Form11 {T : List (Nat × Spec)} (hT : Fine T) (hx : ∀ l, callExt (EV (tabL T)) 68 l = none) (hxn : ∀ l, callExt (EV (tabL T)) 99 l = none)
  (h1 : ∀ op h, 0 ≤ op → op < 70 → callR (EV (tabL T)) 100 [.int .i64 op] h = some (.int .i64 (formN op.toNat), h)) : Fine ((68, formEV) :: T) :=
 hT.step (F := Tryz.f68) (by kernel_rfl) (by kernel_rfl) hx fun args v hv => by
  unfold formEV at hv
  split at hv
  ·rename_i op
   cases hv
   refine ⟨rfl, rfl, ?_⟩
   unfold formE
   have hnm : ∃ b c h', callR (EV (tabL T)) 99 [] h0 = some (.slice (some ⟨b, 0, none⟩) 70 c, h') := by
    generalize he : callR _ _ _ _ = r
    rw [enter99 _ _ _ (hxn _) rfl] at he
    simp only [sS, sevalprocAttr, fF99, tT, sN, sM, ng_eq, tabL_ng, h0_next] at he
    subst he
    exact ⟨_, _, _, rfl⟩
   obtain ⟨b, c, h', hnm⟩ := hnm
   generalize he : callR _ _ _ _ = r
   rw [enter68 _ _ _ (hx _) rfl] at he
   by_cases q1 : op < 0
   ·rw [if_neg (by omega)]
    have d1 : decide (op < 0) = true := decide_eq_true q1
    simp only [sS, sevalprocAttr, fF68, tT, sN, sM, ng_eq, tabL_ng, h0_next, iLss, iGeq, ge_iff_le, d1] at he
    subst he
    exact ⟨_, rfl⟩
   ·have d1 : decide (op < 0) = false := decide_eq_false q1
    have hc : ((70 : Nat) : Int) = 70 := rfl
    by_cases q2 : 70 ≤ op
    ·rw [if_neg (by omega)]
     have d2 : decide ((70 : Int) ≤ op) = true := decide_eq_true q2
     simp only [sS, sevalprocAttr, fF68, tT, sN, sM, ng_eq, tabL_ng, h0_next, iLss, iGeq, ge_iff_le, d1, d2, hnm, hc, Int.cast_ofNat_Int] at he
     subst he
     exact ⟨_, rfl⟩
    ·rw [if_pos (by omega)]
     have d2 : decide ((70 : Int) ≤ op) = false := decide_eq_false q2
     have e := fun h => h1 op h (by omega) (by omega)
     simp only [sS, sevalprocAttr, fF68, tT, sN, sM, ng_eq, tabL_ng, h0_next, iLss, iGeq, ge_iff_le, d1, d2, e, hnm, hc, Int.cast_ofNat_Int] at he
     subst he
     exact ⟨_, rfl⟩
  ·cases hv
theorem flo_eq (x : Int) : FLO.contains x = (x == 6 || x == 7 || x == 8 || x == 18 || x == 30 || (decide (34 ≤ x) && decide (x ≤ 37))) := by
 rw [Bool.eq_iff_iff]
 simp [FLO]
 omega
theorem form_row : ∀ n, n < 70 → ((((formN n : Nat) : Int) == 0) || (((formN n : Nat) : Int) == 4)) = !rowB n := by decide
theorem f_Takes11 {T : List (Nat × Spec)} (hT : Fine T) (hx : ∀ l, callExt (EV (tabL T)) 69 l = none)
  (h1 : ∀ op h, 0 ≤ op → op < 70 → callR (EV (tabL T)) 100 [.int .i64 op] h = some (.int .i64 (formN op.toNat), h))
  (h2 : ∀ s h, callR (EV (tabL T)) 101 [.string ⟨⟨s⟩⟩] h = some (.bool (isFloatB s), h))
  (h3 : ∀ s h, callR (EV (tabL T)) 102 [.string ⟨⟨s⟩⟩] h = some (.bool (isI s), h))
  (h4 : ∀ s h, callR (EV (tabL T)) 103 [.string ⟨⟨s⟩⟩] h = some (.tuple ⟨[.int .i64 (rdTy s).1, .bool (rdTy s).2.1, .int .i64 (rdTy s).2.2]⟩, h)) : Fine ((69, takesV) :: T) :=
 hT.step (F := Tryz.f69) (by kernel_rfl) (by kernel_rfl) hx fun args v hv => by
  unfold takesV at hv
  split at hv
  ·rename_i op s
   split at hv
   ·rename_i hr
    cases hv
    refine ⟨rfl, rfl, ?_⟩
    obtain ⟨n, rfl⟩ : ∃ n : Nat, op = n := ⟨op.toNat, by omega⟩
    have hn : n < 70 := by omega
    have e1 := fun h => h1 (n : Int) h (by omega) (by omega)
    simp only [Int.toNat_natCast] at e1 ⊢
    generalize he : callR _ _ _ _ = r
    rw [enter69 _ _ _ (hx _) rfl] at he
    have hfr := form_row n hn
    cases f0 : (((formN n : Nat) : Int) == 0) with
    | true =>
     rw [f0] at hfr
     have hrow : rowB n = false := by simpa using hfr
     have ht : takesB n s = false := by unfold takesB; rw [hrow]; rfl
     rw [ht]
     simp only [sS, sevalprocAttr, fF69, tT, sN, sM, ng_eq, tabL_ng, h0_next, e1, iEql, f0] at he
     subst he
     exact ⟨_, rfl⟩
    | false =>
     cases f4 : (((formN n : Nat) : Int) == 4) with
     | true =>
      rw [f0, f4] at hfr
      have hrow : rowB n = false := by simpa using hfr
      have ht : takesB n s = false := by unfold takesB; rw [hrow]; rfl
      rw [ht]
      simp only [sS, sevalprocAttr, fF69, tT, sN, sM, ng_eq, tabL_ng, h0_next, e1, iEql, f0, f4] at he
      subst he
      exact ⟨_, rfl⟩
     | false =>
      rw [f0, f4] at hfr
      have hrow : rowB n = true := by simpa using hfr
      cases hf : isFloatB s with
      | true =>
       have ht : takesB n s = FLO.contains (n : Int) := by unfold takesB; rw [hrow, hf]; rfl
       rw [ht, flo_eq]
       cases e6 : ((n : Int) == 6) with
       | true =>
        simp only [sS, sevalprocAttr, fF69, tT, sN, sM, ng_eq, tabL_ng, h0_next, e1, h2, iEql, f0, f4, hf, e6] at he
        subst he
        exact ⟨_, rfl⟩
       | false =>
        cases e7 : ((n : Int) == 7) with
        | true =>
         simp only [sS, sevalprocAttr, fF69, tT, sN, sM, ng_eq, tabL_ng, h0_next, e1, h2, iEql, f0, f4, hf, e6, e7] at he
         subst he
         exact ⟨_, rfl⟩
        | false =>
         cases e8 : ((n : Int) == 8) with
         | true =>
          simp only [sS, sevalprocAttr, fF69, tT, sN, sM, ng_eq, tabL_ng, h0_next, e1, h2, iEql, f0, f4, hf, e6, e7, e8] at he
          subst he
          exact ⟨_, rfl⟩
         | false =>
          cases e18 : ((n : Int) == 18) with
          | true =>
           simp only [sS, sevalprocAttr, fF69, tT, sN, sM, ng_eq, tabL_ng, h0_next, e1, h2, iEql, f0, f4, hf, e6, e7, e8, e18] at he
           subst he
           exact ⟨_, rfl⟩
          | false =>
           cases e30 : ((n : Int) == 30) with
           | true =>
            simp only [sS, sevalprocAttr, fF69, tT, sN, sM, ng_eq, tabL_ng, h0_next, e1, h2, iEql, f0, f4, hf, e6, e7, e8, e18, e30] at he
            subst he
            exact ⟨_, rfl⟩
           | false =>
            cases e34 : decide (34 ≤ (n : Int)) <;>
            ·simp only [sS, sevalprocAttr, fF69, tT, sN, sM, ng_eq, tabL_ng, h0_next, e1, h2, iEql, iGeq, iLeq, ge_iff_le, f0, f4, hf, e6, e7, e8, e18, e30, e34] at he
             subst he
             exact ⟨_, rfl⟩
      | false =>
       cases hi : isI s with
       | false =>
        have ht : takesB n s = false := by
         have hi' : ((rdTy s).2.2 == 0) = false := hi
         unfold takesB; rw [hrow, hf, hi']; simp
        rw [ht]
        simp only [sS, sevalprocAttr, fF69, tT, sN, sM, ng_eq, tabL_ng, h0_next, e1, h2, h3, iEql, f0, f4, hf, hi, Bool.not_false] at he
        subst he
        exact ⟨_, rfl⟩
       | true =>
        have hi' : ((rdTy s).2.2 == 0) = true := hi
        have r1 : iRem .i64 (rdTy s).1 8 = some (.int .i64 ((rdTy s).1.tmod 8)) := by
         unfold iRem; rw [if_neg (by decide)]
        by_cases q46 : 46 ≤ n
        ·have d46 : decide ((46 : Int) ≤ n) = true := decide_eq_true (by omega)
         have hle : n ≤ 49 := by
          simp only [rowB, Bool.or_eq_true, Bool.and_eq_true, Nat.ble_eq] at hrow
          omega
         have d49 : decide ((n : Int) ≤ 49) = true := decide_eq_true (by omega)
         by_cases q49 : n = 49
         ·have ht : takesB n s = (!(rdTy s).2.1 && (rdTy s).1.tmod 8 == 0) := by
           unfold takesB; rw [hrow, hf, hi']
           simp only [Bool.true_and, Bool.false_eq_true, if_false]
           rw [if_neg (by omega), if_pos q49]
          rw [ht]
          have n49 : ((n : Int) != 49) = false := by rw [bne_eq_false_iff_eq]; omega
          cases q5 : (rdTy s).2.1 <;>
          ·simp only [sS, sevalprocAttr, fF69, tT, sN, sM, ng_eq, tabL_ng, h0_next, e1, h2, h3, h4, iEql, iNeq, iGeq, iLeq, ge_iff_le, f0, f4, hf, hi, Bool.not_true, Bool.not_false, d46, d49, n49, q5, r1] at he
           subst he
           exact ⟨_, rfl⟩
         ·have ht : takesB n s = !(rdTy s).2.1 := by
           unfold takesB; rw [hrow, hf, hi']
           simp only [Bool.true_and, Bool.false_eq_true, if_false]
           rw [if_pos (by omega)]
          rw [ht]
          have n49 : ((n : Int) != 49) = true := by rw [bne_iff_ne]; omega
          cases q5 : (rdTy s).2.1 <;>
          ·simp only [sS, sevalprocAttr, fF69, tT, sN, sM, ng_eq, tabL_ng, h0_next, e1, h2, h3, h4, iEql, iNeq, iGeq, iLeq, ge_iff_le, f0, f4, hf, hi, Bool.not_true, Bool.not_false, d46, d49, n49, q5, r1] at he
           subst he
           exact ⟨_, rfl⟩
        ·have d46 : decide ((46 : Int) ≤ n) = false := decide_eq_false (by omega)
         have ht : takesB n s = true := by
          unfold takesB; rw [hrow, hf, hi']
          simp only [Bool.true_and, Bool.false_eq_true, if_false]
          rw [if_neg (by omega), if_neg (by omega)]
         rw [ht]
         simp only [sS, sevalprocAttr, fF69, tT, sN, sM, ng_eq, tabL_ng, h0_next, e1, h2, h3, h4, iEql, iNeq, iGeq, iLeq, ge_iff_le, f0, f4, hf, hi, Bool.not_true, d46] at he
         subst he
         exact ⟨_, rfl⟩
   ·cases hv
  ·cases hv
theorem f_whenR {T : List (Nat × Spec)} (hT : Fine T) (hx : ∀ l, callExt (EV (tabL T)) 65 l = none) : Fine ((65, whenV) :: T) :=
 hT.step (F := Tryz.f65) (by kernel_rfl) (by kernel_rfl) hx fun args v hv => by
  unfold whenV at hv
  split at hv
  ·rename_i b e
   cases hv
   refine ⟨rfl, rfl, ?_⟩
   generalize he : callR _ _ _ _ = r
   rw [enter65 _ _ _ (hx _) rfl] at he
   cases b <;> (simp only [sS, sevalprocAttr, fF65, tT, Bool.false_eq_true] at he; subst he; exact ⟨_, rfl⟩)
  ·cases hv
theorem first2_run (tab : Tab) (hx : ∀ l, callExt (EV tab) 39 l = none) (h : H) (b c : Nat) (x y : Int) (hb : tab.ng ≤ b) (hg : h.get b = some (.cells 3 1 [.int .i64 x, .int .i64 y])) :
  callR (EV tab) 39 [.slice (some ⟨b, 0, none⟩) 2 c] h = some (.int .i64 (firstI [x, y]), h) := by
 generalize he : callR _ _ _ _ = r
 rw [enter39 _ _ _ (hx _) rfl] at he
 have a0 : iAdd .i64 0 1 = some (.int .i64 1) := rfl
 have a1 : iAdd .i64 1 1 = some (.int .i64 2) := rfl
 have n1 : ¬ b < tab.ng := by omega
 simp only [firstI]
 by_cases q1 : x = 0
 ·rw [if_pos q1]
  have e1 : (x != 0) = false := by rw [q1]; rfl
  by_cases q2 : y = 0
  ·have e2 : (y != 0) = false := by rw [q2]; rfl
   rw [if_pos q2]
   simp only [sS, sevalprocAttr, fF39, tT, sN, sM, exR_loop, ng_eq, tabL_ng, iLss, n1, hg, iNeq, e1, e2, a0, a1, Int.cast_ofNat_Int, Int.reduceLT, Int.reduceLE, Int.reduceToNat, decide_true, decide_false, and_self, List.getElem?_cons_zero, List.getElem?_cons_succ] at he
   subst he; rfl
  ·have e2 : (y != 0) = true := by simpa using q2
   rw [if_neg q2]
   simp only [sS, sevalprocAttr, fF39, tT, sN, sM, exR_loop, ng_eq, tabL_ng, iLss, n1, hg, iNeq, e1, e2, a0, a1, Int.cast_ofNat_Int, Int.reduceLT, Int.reduceLE, Int.reduceToNat, decide_true, decide_false, and_self, List.getElem?_cons_zero, List.getElem?_cons_succ] at he
   subst he; rfl
 ·rw [if_neg q1]
  have e1 : (x != 0) = true := by simpa using q1
  simp only [sS, sevalprocAttr, fF39, tT, sN, sM, exR_loop, ng_eq, tabL_ng, iLss, n1, hg, iNeq, e1, a0, a1, Int.cast_ofNat_Int, Int.reduceLT, Int.reduceLE, Int.reduceToNat, decide_true, decide_false, and_self, List.getElem?_cons_zero, List.getElem?_cons_succ] at he
  subst he; rfl
def isImmV : Spec
 | [.int .i64 n] => some (.bool (nearB n))
 | _ => none
theorem f_isImm {T : List (Nat × Spec)} (hT : Fine T) (hx : ∀ l, callExt (EV (tabL T)) 66 l = none) : Fine ((66, isImmV) :: T) :=
 hT.step (F := Tryz.f66) (by kernel_rfl) (by kernel_rfl) hx fun args v hv => by
  unfold isImmV at hv
  split at hv
  ·rename_i n
   cases hv
   refine ⟨rfl, rfl, ?_⟩
   generalize he : callR _ _ _ _ = r
   rw [enter66 _ _ _ (hx _) rfl] at he
   unfold nearB
   have hh : decide (n < 2147483648) = decide (n ≤ 2147483647) := by rw [decide_eq_decide]; omega
   rw [hh]
   cases q1 : decide (-2147483648 ≤ n) <;>
   ·simp only [sS, sevalprocAttr, fF66, tT, sN, sM, iGeq, iLeq, ge_iff_le, q1] at he
    subst he
    exact ⟨_, rfl⟩
  ·cases hv
def isAlignV : Spec
 | [.int .i64 n] => some (.bool (alignB n))
 | _ => none
theorem f_isAlign {T : List (Nat × Spec)} (hT : Fine T) (hx : ∀ l, callExt (EV (tabL T)) 67 l = none) : Fine ((67, isAlignV) :: T) :=
 hT.step (F := Tryz.f67) (by kernel_rfl) (by kernel_rfl) hx fun args v hv => by
  unfold isAlignV at hv
  split at hv
  ·rename_i n
   cases hv
   refine ⟨rfl, rfl, ?_⟩
   generalize he : callR _ _ _ _ = r
   rw [enter67 _ _ _ (hx _) rfl] at he
   have ha : alignB n = (n == 1 || (n == 2 || (n == 4 || (n == 8 || (n == 16 || false))))) := by
    unfold alignB; simp only [List.contains_cons, List.contains_nil]
   rw [ha]
   cases q1 : (n == 1) with
   | true =>
    simp only [sS, sevalprocAttr, fF67, tT, sN, sM, iEql, q1] at he
    subst he
    exact ⟨_, rfl⟩
   | false =>
    cases q2 : (n == 2) with
    | true =>
     simp only [sS, sevalprocAttr, fF67, tT, sN, sM, iEql, q1, q2] at he
     subst he
     exact ⟨_, rfl⟩
    | false =>
     cases q4 : (n == 4) with
     | true =>
      simp only [sS, sevalprocAttr, fF67, tT, sN, sM, iEql, q1, q2, q4] at he
      subst he
      exact ⟨_, rfl⟩
     | false =>
      cases q8 : (n == 8) <;> cases q16 : (n == 16) <;>
      ·simp only [sS, sevalprocAttr, fF67, tT, sN, sM, iEql, q1, q2, q4, q8, q16] at he
       subst he
       exact ⟨_, rfl⟩
  ·cases hv
theorem opsW_kind (s : List UInt8) : ((opsW s).2 == 0) = (isI s || isFloatB s || s == PTR) ∧ ((isI s || isFloatB s) = true → (opsW s).1 = (width11 s).1) ∧ ((isI s || isFloatB s) = true → s ≠ PTR) := by
 by_cases q1 : s = F32
 ·subst q1; exact ⟨rfl, fun _ => rfl, fun _ => by decide⟩
 ·by_cases q2 : s = F64
  ·subst q2; exact ⟨rfl, fun _ => rfl, fun _ => by decide⟩
  ·by_cases q3 : s = PTR
   ·subst q3; exact ⟨rfl, fun _ => rfl, fun h => absurd h (by decide)⟩
   ·have ho : opsW s = ((rdTy s).1, if (rdTy s).2.2 = 0 then 0 else 12) := by unfold opsW; rw [if_neg q1, if_neg q2, if_neg q3]
    have hw : width11 s = if isI s then ((rdTy s).1, 0) else (0, 12) := by unfold width11; rw [if_neg q1, if_neg (fun h => h.elim q2 q3)]
    have f : isFloatB s = false := by unfold isFloatB; rw [beq_eq_false_iff_ne.2 q1, beq_eq_false_iff_ne.2 q2]; rfl
    have p : (s == PTR) = false := beq_eq_false_iff_ne.2 q3
    rw [f, p, ho, hw]
    refine ⟨?_, fun h => ?_, fun _ => q3⟩
    ·unfold isI
     by_cases h : (rdTy s).2.2 = 0
     ·rw [h]; rfl
     ·have h2 : ((rdTy s).2.2 == 0) = false := beq_eq_false_iff_ne.2 h
      simp only [if_neg h, h2]; rfl
    ·have h : isI s = true := by simpa using h
     rw [if_pos h]
theorem f_Converts11 {T : List (Nat × Spec)} (hT : Fine T) (hx : ∀ l, callExt (EV (tabL T)) 70 l = none)
  (g1 : ∀ s h, callR (EV (tabL T)) 102 [.string ⟨⟨s⟩⟩] h = some (.bool (isI s), h))
  (h2 : ∀ s h, callR (EV (tabL T)) 101 [.string ⟨⟨s⟩⟩] h = some (.bool (isFloatB s), h))
  (h3 : ∀ s h, callR (EV (tabL T)) 104 [.string ⟨⟨s⟩⟩] h = some (.tuple ⟨[.int .i64 (width11 s).1, .int .i64 (width11 s).2]⟩, h)) : Fine ((70, convV) :: T) :=
 hT.step (F := Tryz.f70) (by kernel_rfl) (by kernel_rfl) hx fun args v hv => by
  unfold convV at hv
  split at hv
  ·rename_i op s t
   cases hv
   refine ⟨rfl, rfl, ?_⟩
   have jt : ∀ k : Int, op = k → (op == k) = true := fun k h => by rw [beq_iff_eq]; exact h
   have jf : ∀ k : Int, op ≠ k → (op == k) = false := fun k h => by rw [beq_eq_false_iff_ne]; exact h
   have hw : ∀ s, isI s = true → (width11 s).1 = (rdTy s).1 := fun s h => by
    unfold width11; rw [if_neg (isI_ne h).1, if_neg (fun q => q.elim (isI_ne h).2.1 (isI_ne h).2.2.1), if_pos h]
   generalize he : callR _ _ _ _ = r
   rw [enter70 _ _ _ (hx _) rfl] at he
   unfold convB
   by_cases q1 : op = 38 ∨ op = 39
   ·rw [if_pos q1]
    rcases q1 with q1 | q1
    ·have j38 := jt 38 q1
     cases a1 : isI s <;>
     ·simp only [sS, sevalprocAttr, fF70, tT, sN, sM, ng_eq, tabL_ng, h0_next, g1, h2, h3, iEql, j38, a1] at he
      subst he
      exact ⟨_, rfl⟩
    ·have j38 := jf 38 (by omega)
     have j39 := jt 39 q1
     cases a1 : isI s <;>
     ·simp only [sS, sevalprocAttr, fF70, tT, sN, sM, ng_eq, tabL_ng, h0_next, g1, h2, h3, iEql, j38, j39, a1] at he
      subst he
      exact ⟨_, rfl⟩
   ·rw [if_neg q1]
    have j38 := jf 38 (by omega)
    have j39 := jf 39 (by omega)
    by_cases q2 : op = 40
    ·rw [if_pos q2]
     have j40 := jt 40 q2
     cases a1 : isI s with
     | false =>
      simp only [sS, sevalprocAttr, fF70, tT, sN, sM, ng_eq, tabL_ng, h0_next, g1, h2, h3, iEql, iLeq, j38, j39, j40, a1] at he
      subst he
      exact ⟨_, rfl⟩
     | true =>
      cases a2 : isI t with
      | false =>
       simp only [sS, sevalprocAttr, fF70, tT, sN, sM, ng_eq, tabL_ng, h0_next, g1, h2, h3, iEql, iLeq, j38, j39, j40, a1, a2] at he
       subst he
       exact ⟨_, rfl⟩
      | true =>
       simp only [sS, sevalprocAttr, fF70, tT, sN, sM, ng_eq, tabL_ng, h0_next, g1, h2, h3, iEql, iLeq, j38, j39, j40, a1, a2, hw s a1, hw t a2] at he
       subst he
       exact ⟨_, rfl⟩
    ·rw [if_neg q2]
     have j40 := jf 40 q2
     by_cases q3 : op = 41
     ·rw [if_pos q3]
      have j41 := jt 41 q3
      obtain ⟨s1, s2, s3⟩ := opsW_kind s
      obtain ⟨t1, t2, t3⟩ := opsW_kind t
      have hf : (firstI [(opsW s).2, (opsW t).2] == 0) = ((opsW s).2 == 0 && (opsW t).2 == 0) := by
       simp only [firstI]
       by_cases z : (opsW s).2 = 0
       ·rw [if_pos z, z]
        by_cases z2 : (opsW t).2 = 0
        ·rw [if_pos z2, z2]; rfl
        ·rw [if_neg z2]; simp
       ·rw [if_neg z]
        have : ((opsW s).2 == 0) = false := beq_eq_false_iff_ne.2 z
        rw [this]; rfl
      rw [hf, s1, t1]
      have z1 : ((isI s || isFloatB s || s == PTR) && (isI t || isFloatB t || t == PTR) && (opsW s).1 == (opsW t).1 && !(s == PTR) && !(t == PTR)) = ((isI s || isFloatB s) && (isI t || isFloatB t) && ((width11 s).1 == (width11 t).1)) := by
       cases u1 : (isI s || isFloatB s) with
       | false => cases u2 : (s == PTR) <;> simp
       | true =>
        cases u3 : (isI t || isFloatB t) with
        | false => cases u2 : (t == PTR) <;> simp
        | true =>
         rw [s2 u1, t2 u3, beq_eq_false_iff_ne.2 (s3 u1), beq_eq_false_iff_ne.2 (t3 u3)]
         simp
      rw [z1]
      cases a1 : isI s <;> cases a2 : isFloatB s <;> cases a3 : isI t <;> cases a4 : isFloatB t <;>
      ·simp only [sS, sevalprocAttr, fF70, tT, sN, sM, ng_eq, tabL_ng, h0_next, g1, h2, h3, iEql, j38, j39, j40, j41, a1, a2, a3, a4] at he
       subst he
       exact ⟨_, rfl⟩
     ·rw [if_neg q3]
      have j41 := jf 41 q3
      by_cases q4 : op = 42
      ·rw [if_pos q4]
       have j42 := jt 42 q4
       cases a1 : isI s <;>
       ·simp only [sS, sevalprocAttr, fF70, tT, sN, sM, ng_eq, tabL_ng, h0_next, g1, h2, h3, iEql, j38, j39, j40, j41, j42, a1] at he
        subst he
        exact ⟨_, rfl⟩
      ·rw [if_neg q4]
       have j42 := jf 42 q4
       by_cases q5 : op = 43 ∨ op = 44
       ·rw [if_pos q5]
        rcases q5 with q5 | q5
        ·have j43 := jt 43 q5
         cases a1 : isFloatB s <;>
         ·simp only [sS, sevalprocAttr, fF70, tT, sN, sM, ng_eq, tabL_ng, h0_next, g1, h2, h3, iEql, j38, j39, j40, j41, j42, j43, a1] at he
          subst he
          exact ⟨_, rfl⟩
        ·have j43 := jf 43 (by omega)
         have j44 := jt 44 q5
         cases a1 : isFloatB s <;>
         ·simp only [sS, sevalprocAttr, fF70, tT, sN, sM, ng_eq, tabL_ng, h0_next, g1, h2, h3, iEql, j38, j39, j40, j41, j42, j43, j44, a1] at he
          subst he
          exact ⟨_, rfl⟩
       ·rw [if_neg q5]
        have j43 := jf 43 (by omega)
        have j44 := jf 44 (by omega)
        by_cases q6 : op = 45
        ·rw [if_pos q6]
         have j45 := jt 45 q6
         have z : (isFloatB s && isFloatB t && !(s == t)) = ((s == F32 && t == F64) || (s == F64 && t == F32)) := by
          unfold isFloatB
          by_cases u1 : s = F32
          ·subst u1
           by_cases u2 : t = F32
           ·subst u2; rfl
           ·by_cases u3 : t = F64
            ·subst u3; rfl
            ·rw [beq_eq_false_iff_ne.2 u2, beq_eq_false_iff_ne.2 u3]; rfl
          ·by_cases u4 : s = F64
           ·subst u4
            by_cases u2 : t = F32
            ·subst u2; rfl
            ·by_cases u3 : t = F64
             ·subst u3; rfl
             ·rw [beq_eq_false_iff_ne.2 u2, beq_eq_false_iff_ne.2 u3]; rfl
           ·rw [beq_eq_false_iff_ne.2 u1, beq_eq_false_iff_ne.2 u4]; rfl
         rw [z]
         unfold F32 F64
         cases a1 : (s == [102, 51, 50]) <;> cases a2 : (t == [102, 54, 52]) <;> cases a3 : (s == [102, 54, 52]) <;>
         ·simp only [sS, sevalprocAttr, fF70, tT, sN, sM, ng_eq, tabL_ng, h0_next, g1, h2, h3, iEql, j38, j39, j40, j41, j42, j43, j44, j45, a1, a2, a3, binStr, strBin, sEql, bs_beq] at he
          subst he
          exact ⟨_, rfl⟩
        ·rw [if_neg q6]
         have j45 := jf 45 q6
         simp only [sS, sevalprocAttr, fF70, tT, sN, sM, ng_eq, tabL_ng, h0_next, g1, h2, h3, iEql, j38, j39, j40, j41, j42, j43, j44, j45] at he
         subst he
         exact ⟨_, rfl⟩
  ·cases hv
end Go.D
