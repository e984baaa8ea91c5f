/- The environment of D: each type, each function of it is the program's. -/
import Derived.Test.YtnlnhelmegoebaaGreatDoorEnv
import Derived.Test.YtnlnhelmegoebaaGreatDoorDb
import Derived.Laws.Externs
namespace Go.D
open Go.Proofs
set_option maxRecDepth 100000
set_option linter.unusedVariables false
theorem e0_ty : (List.range 450).map (tyRow E0) = (List.range 450).map (tyReal Tryz.prog E0) := by kernel_rfl
theorem e0_fine : tyFineAll E0 450 = true := by kernel_rfl
theorem e0_fn : (List.range 429).map (fnRow E0) = (List.range 429).map (fnReal Tryz.prog E0) := by kernel_rfl
theorem e0_name : fnFine E0 429 = true := by kernel_rfl
theorem e0_mixed : Tryz.prog.follows .mixedOrders = true := by kernel_rfl
theorem e0_n (t : Nat) (i : Info) (h : E0.info t = some i) : t < 450 := by
  simp only [E0] at h
  cases hb : Nat.blt t 450 with
  | true => rw [Nat.blt_eq] at hb; exact hb
  | false => rw [hb] at h; cases h
theorem e0_nf (f : Nat) (F : Func) (h : E0.fn f = some F) : f < 429 := by
  simp only [E0] at h
  cases hb : Nat.blt f 429 with
  | true => rw [Nat.blt_eq] at hb; exact hb
  | false => rw [hb] at h; cases h
theorem e0_u3 : Tryz.prog.underlying 3 = some (.int .i64) := by kernel_rfl
theorem e0_i3 : (Tryz.prog.info? 3).map (·.size) = some 1 := by kernel_rfl
theorem e0_eqt (t : Nat) (h : E0.eqf t = true) : t = 87 ∨ t = 244 ∨ t = 40 := by
  simp only [E0, Bool.or_eq_true] at h
  rcases h with (h | h) | h <;> have := Nat.eq_of_beq_eq_true h <;> omega
theorem e0_z87 : (E0.info 87).map (·.zero) = some [.int .i64 0, .int .i64 0] := by kernel_rfl
theorem e0_u87 : Tryz.prog.underlying 87 = some (.array 2 3) := by kernel_rfl
theorem e0_z244 : (E0.info 244).map (·.zero) = some [.int .i64 0, .bool false] := by kernel_rfl
theorem e0_u244 : Tryz.prog.underlying 244 = some (.struct #[⟨ "width", 3, 0, false, "", "bowline/wide", 0⟩, ⟨ "signed", 4, 1, false, "", "bowline/wide", 8⟩]) := by kernel_rfl
theorem e0_h244 : Tryz.prog.stoodInHeld 244 = false := by kernel_rfl
theorem e0_f244 : flatB Tryz.prog 0 (#[⟨ "width", 3, 0, false, "", "bowline/wide", 0⟩, ⟨ "signed", 4, 1, false, "", "bowline/wide", 8⟩] : Array Field).toList [.int .i64 0, .bool false] = true := by kernel_rfl
theorem e0_z40 : (E0.info 40).map (·.zero) = some [.int .i64 0, .string ⟨#[]⟩, .string ⟨#[]⟩, .int .u64 0, .int .i64 0, .int .i64 0] := by kernel_rfl
theorem e0_u40 : Tryz.prog.underlying 40 = some (.struct #[⟨ "Op", 3, 0, false, "", "", 0⟩, ⟨ "Type", 9, 1, false, "", "", 8⟩, ⟨ "To", 9, 2, false, "", "", 24⟩, ⟨ "Num", 38, 3, false, "", "", 40⟩, ⟨ "Imm", 3, 4, false, "", "", 48⟩, ⟨ "Size", 3, 5, false, "", "", 56⟩]) := by kernel_rfl
theorem e0_h40 : Tryz.prog.stoodInHeld 40 = false := by kernel_rfl
theorem e0_f40 : flatB Tryz.prog 0 (#[⟨ "Op", 3, 0, false, "", "", 0⟩, ⟨ "Type", 9, 1, false, "", "", 8⟩, ⟨ "To", 9, 2, false, "", "", 24⟩, ⟨ "Num", 38, 3, false, "", "", 40⟩, ⟨ "Imm", 3, 4, false, "", "", 48⟩, ⟨ "Size", 3, 5, false, "", "", 56⟩] : Array Field).toList [.int .i64 0, .string ⟨#[]⟩, .string ⟨#[]⟩, .int .u64 0, .int .i64 0, .int .i64 0] = true := by kernel_rfl
theorem e0_eq (t : Nat) (i : Info) (h : E0.eqf t = true) (hi : E0.info t = some i) (xs ys : List Value) (b : Bool) (hx : sameKinds i.zero xs = true) (hy : sameKinds i.zero ys = true) (hb : eqCells xs ys = some b) (w : World) :
    (Op.equal t (.agg ⟨xs⟩) (.agg ⟨ys⟩)).run Tryz.prog w = .ok b w := by
  rcases e0_eqt t h with rfl | rfl | rfl
  · have hz : i.zero = [.int .i64 0, .int .i64 0] := by have := e0_z87; rw [hi] at this; simpa using this
    rw [hz] at hx hy
    obtain ⟨a, p, rfl⟩ := kinds_ii hx
    obtain ⟨c, q, rfl⟩ := kinds_ii hy
    obtain ⟨ti, h1, h2⟩ := Option.map_eq_some_iff.1 e0_i3
    rw [eqArr e0_u87 h1 h2 e0_u3]
    simp only [eqCells, if_true] at hb
    by_cases e1 : a = c <;> by_cases e2 : p = q <;> simp_all
  · have hz : i.zero = [.int .i64 0, .bool false] := by have := e0_z244; rw [hi] at this; simpa using this
    rw [hz] at hx hy
    exact eqGen e0_u244 e0_h244 e0_f244 hx hy hb w
  · have hz : i.zero = [.int .i64 0, .string ⟨#[]⟩, .string ⟨#[]⟩, .int .u64 0, .int .i64 0, .int .i64 0] := by have := e0_z40; rw [hi] at this; simpa using this
    rw [hz] at hx hy
    exact eqGen e0_u40 e0_h40 e0_f40 hx hy hb w
theorem e0_gd (t : Nat) (h : E0.eqf t = true) : Tryz.prog.eqGuardType Tryz.prog.depth t = false := by
  rcases e0_eqt t h with rfl | rfl | rfl <;> kernel_rfl
theorem e0_ok2 : EnvOk2 Tryz.prog E0 := envOk_of 450 429 e0_n e0_nf e0_ty e0_fine e0_fn e0_name e0_mixed e0_eq e0_gd
end Go.D
