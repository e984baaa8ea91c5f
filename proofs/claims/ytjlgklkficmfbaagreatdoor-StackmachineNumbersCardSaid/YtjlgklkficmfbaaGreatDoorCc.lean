import Derived.Test.YtjlgklkficmfbaaGreatDoorChecked
import Derived.Lib.Builder
import Derived.Lib.Walk
import Derived.KernelRfl
import Derived.Laws.Externs
namespace Go.D
open Go.Proofs
set_option maxRecDepth 100000
theorem cc_t75 : Tryz.prog.underlying 75 = some (.pointer 77) := by kernel_rfl
theorem cc_i77 : (Tryz.prog.info? 77).isSome = true := by kernel_rfl
set_option maxHeartbeats 1000000 in
theorem cc_used (b : Nat) (w : World) (h0 : w.cell? ⟨b, 0, none⟩ = some (.pointer (some ⟨b, 0, none⟩))) :
    Calls Tryz.prog 39 #[.pointer (some ⟨b, 0, none⟩)] w fun e w' => e = .returned (.tuple #[]) ∧ w' = w := by
  obtain ⟨j, hj⟩ := Option.isSome_iff_exists.1 cc_i77
  go_enter Tryz.func39, Tryz.ntmps39
  go_wp2
  rw [Lib.run_neq_ptr_same w _ cc_t75 hj]
  go_wp2
  go_end0
  exact ⟨rfl, rfl⟩
theorem cc_s77 : (Tryz.prog.info? 77).map (·.size) = some 2 := by kernel_rfl
theorem cc_t125 : Tryz.prog.underlying 125 = some .unsafePointer := by kernel_rfl
theorem cc_c77 : Tryz.prog.cellsOf 77 = 2 := by kernel_rfl
theorem cc_lies (N : Nat) (hN : 2 ≤ N) : liesAt Tryz.prog Tryz.prog.depth 77 (N / Tryz.prog.cellsOf 77) 0 77 1 = true := by
  have hd : Tryz.prog.depth = (2 * (Tryz.prog.types.size + Made.depth) + 1) + 1 := rfl
  have h1 : 1 ≤ N / 2 := by omega
  rw [hd, cc_c77]
  simp only [liesAt, Bool.or_eq_true]
  left
  rw [hd]
  simp [rowAt, cc_c77, h1, sameLayout]
set_option maxHeartbeats 1000000 in
theorem cc_fresh (b N : Nat) (hN : 2 ≤ N) (w : World) (h0 : w.cell? ⟨b, 0, none⟩ = some (.pointer none)) (hsh : w.shape? b = some (77, N)) (hfz : w.frozen? ⟨b, 0, none⟩ = false) :
    Calls Tryz.prog 39 #[.pointer (some ⟨b, 0, none⟩)] w fun e w' => e = .returned (.tuple #[]) ∧ w' = w.setCell ⟨b, 0, none⟩ (.pointer (some ⟨b, 0, none⟩)) := by
  obtain ⟨j, hj, hjs⟩ := Option.map_eq_some_iff.1 cc_s77
  go_enter Tryz.func39, Tryz.ntmps39
  go_wp2
  rw [Lib.run_to_unsafe w ⟨b, 0, none⟩ cc_t75 cc_t125 hj (by rw [hjs]; decide) hsh (by show 0 < N; omega)]
  simp only [Result.andThen]
  rw [Oper.upon_value]
  go_wp2
  rw [run_callFunc_extern Tryz.func61 (by kernel_rfl) (by kernel_rfl) (by kernel_rfl) (e := Extern.AbiNoEscape.same) (by kernel_rfl)]
  rw [Lib.run_noEscape]
  simp only [Result.andThen]
  rw [Oper.upon_value]
  go_wp2
  rw [Lib.run_from_unsafe w ⟨b, 0, none⟩ cc_t125 cc_t75 hj hsh (cc_lies N hN)]
  simp only [Result.andThen]
  rw [Oper.upon_value]
  go_wp2
  go_end0
  exact ⟨rfl, rfl⟩
end Go.D
