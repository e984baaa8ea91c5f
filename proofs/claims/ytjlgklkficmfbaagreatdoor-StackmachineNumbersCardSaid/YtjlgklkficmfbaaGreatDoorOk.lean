import Derived.Test.YtjlgklkficmfbaaGreatDoorEnv
import Derived.Test.YtjlgklkficmfbaaGreatDoorDb
import Derived.Laws.Externs
namespace Go.D
open Go.Proofs
set_option maxRecDepth 100000
theorem e0_ty : (List.range 441).map (tyRow E0) = (List.range 441).map (tyReal Tryz.prog E0) := by kernel_rfl
theorem e0_fine : tyFineAll E0 441 = true := by kernel_rfl
theorem e0_fn : (List.range 424).map (fnRow E0) = (List.range 424).map (fnReal Tryz.prog E0) := by kernel_rfl
theorem e0_name : fnFine E0 424 = true := by kernel_rfl
theorem e0_mixed : Tryz.prog.follows .mixedOrders = true := by kernel_rfl
theorem e0_ng : Tryz.prog.globals.size = E0.ng := by kernel_rfl
theorem e0_n (t : Nat) (i : Info) (h : E0.info t = some i) : t < 441 := by
  simp only [E0] at h
  cases hb : Nat.blt t 441 with
  | true => rw [Nat.blt_eq] at hb; exact hb
  | false => rw [hb] at h; cases h
theorem e0_nf (f : Nat) (F : Func) (h : E0.fn f = some F) : f < 424 := by
  simp only [E0] at h
  cases hb : Nat.blt f 424 with
  | true => rw [Nat.blt_eq] at hb; exact hb
  | false => rw [hb] at h; cases h
theorem e0_u3 : Tryz.prog.underlying 3 = some (.int .i64) := by kernel_rfl
theorem e0_u4 : Tryz.prog.underlying 4 = some .bool := by kernel_rfl
theorem e0_eqt (t : Nat) (h : E0.eqf t = true) : t = 78 ∨ t = 155 ∨ t = 156 ∨ t = 232 ∨ t = 233 := by
  simp only [E0, Bool.or_eq_true] at h
  rcases h with (((h | h) | h) | h) | h <;> have := Nat.eq_of_beq_eq_true h <;> omega
theorem e0_z78 : (E0.info 78).map (·.zero) = some [.int .i64 0, .int .i64 0] := by kernel_rfl
theorem e0_z155 : (E0.info 155).map (·.zero) = some [.int .i64 0, .bool false] := by kernel_rfl
theorem e0_z156 : (E0.info 156).map (·.zero) = some [.int .i64 0, .bool false] := by kernel_rfl
theorem e0_z232 : (E0.info 232).map (·.zero) = some [.int .i64 0, .bool false] := by kernel_rfl
theorem e0_z233 : (E0.info 233).map (·.zero) = some [.int .i64 0, .bool false] := by kernel_rfl
theorem e0_u78 : Tryz.prog.underlying 78 = some (.array 2 3) := by kernel_rfl
theorem e0_i3 : (Tryz.prog.info? 3).map (·.size) = some 1 := by kernel_rfl
theorem e0_s (t : Nat) (ht : t = 155 ∨ t = 156 ∨ t = 232 ∨ t = 233) : ∃ f1 f2 : Field, Tryz.prog.underlying t = some (.struct #[f1, f2]) ∧ Tryz.prog.stoodInHeld t = false ∧ f1.name ≠ "_" ∧ f2.name ≠ "_" ∧ f1.offset = 0 ∧ f2.offset = 1 ∧ f1.type = 3 ∧ f2.type = 4 := by
  rcases ht with rfl | rfl | rfl | rfl
  · exact ⟨⟨ "width", 3, 0, false, "", "bowline/ops", 0⟩, ⟨ "signed", 4, 1, false, "", "bowline/ops", 8⟩, by kernel_rfl, by kernel_rfl, by decide, by decide, rfl, rfl, rfl, rfl⟩
  · exact ⟨⟨ "width", 3, 0, false, "", "bowline/ops", 0⟩, ⟨ "signed", 4, 1, false, "", "bowline/ops", 8⟩, by kernel_rfl, by kernel_rfl, by decide, by decide, rfl, rfl, rfl, rfl⟩
  · exact ⟨⟨ "width", 3, 0, false, "", "bowline/wide", 0⟩, ⟨ "signed", 4, 1, false, "", "bowline/wide", 8⟩, by kernel_rfl, by kernel_rfl, by decide, by decide, rfl, rfl, rfl, rfl⟩
  · exact ⟨⟨ "width", 3, 0, false, "", "bowline/wide", 0⟩, ⟨ "signed", 4, 1, false, "", "bowline/wide", 8⟩, by kernel_rfl, by kernel_rfl, by decide, by decide, rfl, rfl, rfl, rfl⟩
theorem e0_eq (t : Nat) (i : Info) (h : E0.eqf t = true) (hi : E0.info t = some i) (xs ys : List Value) (b : Bool) (hx : sameKinds i.zero xs = true) (hy : sameKinds i.zero ys = true) (hb : eqCells xs ys = some b) (w : World) :
    (Op.equal t (.agg ⟨xs⟩) (.agg ⟨ys⟩)).run Tryz.prog w = .ok b w := by
  rcases e0_eqt t h with rfl | h
  · have hz : i.zero = [.int .i64 0, .int .i64 0] := by have := e0_z78; rw [hi] at this; simpa using this
    rw [hz] at hx hy
    obtain ⟨a, p, rfl⟩ := kinds_ii hx
    obtain ⟨c, q, rfl⟩ := kinds_ii hy
    obtain ⟨ti, h1, h2⟩ := Option.map_eq_some_iff.1 e0_i3
    rw [eqArr e0_u78 h1 h2 e0_u3]
    simp only [eqCells, if_true] at hb
    by_cases e1 : a = c <;> by_cases e2 : p = q <;> simp_all
  · have hz : i.zero = [.int .i64 0, .bool false] := by
      rcases h with rfl | rfl | rfl | rfl
      · have := e0_z155; rw [hi] at this; simpa using this
      · have := e0_z156; rw [hi] at this; simpa using this
      · have := e0_z232; rw [hi] at this; simpa using this
      · have := e0_z233; rw [hi] at this; simpa using this
    rw [hz] at hx hy
    obtain ⟨a, p, rfl⟩ := kinds_ib hx
    obtain ⟨c, q, rfl⟩ := kinds_ib hy
    obtain ⟨f1, f2, q1, q2, q3, q4, q5, q6, q7, q8⟩ := e0_s t h
    rw [eqStruct q1 q2 q3 q4 q5 q6 (by rw [q7]; exact e0_u3) (by rw [q8]; exact e0_u4)]
    simp only [eqCells, if_true] at hb
    by_cases e1 : a = c <;> by_cases e2 : p = q <;> simp_all
theorem e0_gd (t : Nat) (h : E0.eqf t = true) : Tryz.prog.eqGuardType Tryz.prog.depth t = false := by
  rcases e0_eqt t h with rfl | rfl | rfl | rfl | rfl <;> kernel_rfl
theorem e0_ok2 : EnvOk2 Tryz.prog E0 := envOk_of 441 424 e0_n e0_nf e0_ty e0_fine e0_fn e0_name e0_mixed e0_ng e0_eq e0_gd
end Go.D
