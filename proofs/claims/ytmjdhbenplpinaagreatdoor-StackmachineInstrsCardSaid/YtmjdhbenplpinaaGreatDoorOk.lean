/- The environment of D: each type, each function of it is the program's. -/
import Derived.Test.YtmjdhbenplpinaaGreatDoorEnv
import Derived.Test.YtmjdhbenplpinaaGreatDoorDb
import Derived.Laws.Externs
namespace Go.D
open Go.Proofs
set_option maxRecDepth 100000
theorem e0_ty : (List.range 474).map (tyRow E0) = (List.range 474).map (tyReal Tryz.prog E0) := by kernel_rfl
theorem e0_fine : tyFineAll E0 474 = true := by kernel_rfl
theorem e0_fn : (List.range 466).map (fnRow E0) = (List.range 466).map (fnReal Tryz.prog E0) := by kernel_rfl
theorem e0_name : fnFine E0 466 = true := by kernel_rfl
theorem e0_mixed : Tryz.prog.follows .mixedOrders = true := by kernel_rfl
theorem e0_n (t : Nat) (i : Info) (h : E0.info t = some i) : t < 474 := by
  simp only [E0] at h
  cases hb : Nat.blt t 474 with
  | true => rw [Nat.blt_eq] at hb; exact hb
  | false => rw [hb] at h; cases h
theorem e0_nf (f : Nat) (F : Func) (h : E0.fn f = some F) : f < 466 := by
  simp only [E0] at h
  cases hb : Nat.blt f 466 with
  | true => rw [Nat.blt_eq] at hb; exact hb
  | false => rw [hb] at h; cases h
theorem e0_u3 : Tryz.prog.underlying 3 = some (.int .i64) := by kernel_rfl
theorem e0_i3 : (Tryz.prog.info? 3).map (·.size) = some 1 := by kernel_rfl
theorem e0_eqt (t : Nat) (h : E0.eqf t = true) : t = 70 ∨ t = 228 ∨ t = 36 := by
  simp only [E0, Bool.or_eq_true] at h
  rcases h with (h | h) | h <;> have := Nat.eq_of_beq_eq_true h <;> omega
theorem e0_z70 : (E0.info 70).map (·.zero) = some [.int .i64 0, .int .i64 0] := by kernel_rfl
theorem e0_u70 : Tryz.prog.underlying 70 = some (.array 2 3) := by kernel_rfl
theorem e0_z228 : (E0.info 228).map (·.zero) = some [.int .i64 0, .bool false] := by kernel_rfl
theorem e0_u228 : Tryz.prog.underlying 228 = some (.struct #[⟨ "width", 3, 0, false, "", "bowline/wide", 0⟩, ⟨ "signed", 4, 1, false, "", "bowline/wide", 8⟩]) := by kernel_rfl
theorem e0_h228 : Tryz.prog.stoodInHeld 228 = false := by kernel_rfl
theorem e0_f228 : flatB Tryz.prog 0 (#[⟨ "width", 3, 0, false, "", "bowline/wide", 0⟩, ⟨ "signed", 4, 1, false, "", "bowline/wide", 8⟩] : Array Field).toList [.int .i64 0, .bool false] = true := by kernel_rfl
theorem e0_z36 : (E0.info 36).map (·.zero) = some [.int .i64 0, .string ⟨#[]⟩, .string ⟨#[]⟩, .int .u64 0, .int .i64 0, .int .i64 0] := by kernel_rfl
theorem e0_u36 : Tryz.prog.underlying 36 = some (.struct #[⟨ "Op", 3, 0, false, "", "", 0⟩, ⟨ "Type", 9, 1, false, "", "", 8⟩, ⟨ "To", 9, 2, false, "", "", 24⟩, ⟨ "Num", 34, 3, false, "", "", 40⟩, ⟨ "Imm", 3, 4, false, "", "", 48⟩, ⟨ "Size", 3, 5, false, "", "", 56⟩]) := by kernel_rfl
theorem e0_h36 : Tryz.prog.stoodInHeld 36 = false := by kernel_rfl
theorem e0_f36 : flatB Tryz.prog 0 (#[⟨ "Op", 3, 0, false, "", "", 0⟩, ⟨ "Type", 9, 1, false, "", "", 8⟩, ⟨ "To", 9, 2, false, "", "", 24⟩, ⟨ "Num", 34, 3, false, "", "", 40⟩, ⟨ "Imm", 3, 4, false, "", "", 48⟩, ⟨ "Size", 3, 5, false, "", "", 56⟩] : Array Field).toList [.int .i64 0, .string ⟨#[]⟩, .string ⟨#[]⟩, .int .u64 0, .int .i64 0, .int .i64 0] = true := by kernel_rfl
theorem e0_eq (t : Nat) (i : Info) (h : E0.eqf t = true) (hi : E0.info t = some i) (xs ys : List Value) (b : Bool) (hx : sameKinds i.zero xs = true) (hy : sameKinds i.zero ys = true) (hb : eqCells xs ys = some b) (w : World) :
    (Op.equal t (.agg ⟨xs⟩) (.agg ⟨ys⟩)).run Tryz.prog w = .ok b w := by
  rcases e0_eqt t h with rfl | rfl | rfl
  · have hz : i.zero = [.int .i64 0, .int .i64 0] := by have := e0_z70; rw [hi] at this; simpa using this
    rw [hz] at hx hy
    obtain ⟨a, p, rfl⟩ := kinds_ii hx
    obtain ⟨c, q, rfl⟩ := kinds_ii hy
    obtain ⟨ti, h1, h2⟩ := Option.map_eq_some_iff.1 e0_i3
    rw [eqArr e0_u70 h1 h2 e0_u3]
    simp only [eqCells, if_true] at hb
    by_cases e1 : a = c <;> by_cases e2 : p = q <;> simp_all
  · have hz : i.zero = [.int .i64 0, .bool false] := by have := e0_z228; rw [hi] at this; simpa using this
    rw [hz] at hx hy
    exact eqGen e0_u228 e0_h228 e0_f228 hx hy hb w
  · have hz : i.zero = [.int .i64 0, .string ⟨#[]⟩, .string ⟨#[]⟩, .int .u64 0, .int .i64 0, .int .i64 0] := by have := e0_z36; rw [hi] at this; simpa using this
    rw [hz] at hx hy
    exact eqGen e0_u36 e0_h36 e0_f36 hx hy hb w
theorem e0_gd (t : Nat) (h : E0.eqf t = true) : Tryz.prog.eqGuardType Tryz.prog.depth t = false := by
  rcases e0_eqt t h with rfl | rfl | rfl <;> kernel_rfl
theorem e0_ok2 : EnvOk2 Tryz.prog E0 := envOk_of 474 466 e0_n e0_nf e0_ty e0_fine e0_fn e0_name e0_mixed e0_eq e0_gd
end Go.D
