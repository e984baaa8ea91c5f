import Derived.Test.YtmjdhbenplpinaaGreatDoorChecked
import Derived.Lib.Builder
import Derived.Lib.Walk
import Derived.KernelRfl
import Derived.Laws.Externs
namespace Go.D
open Go.Proofs
set_option maxRecDepth 100000
theorem cc_t80 : Tryz.prog.underlying 80 = some (.pointer 82) := by kernel_rfl
theorem cc_i82 : (Tryz.prog.info? 82).isSome = true := by kernel_rfl
set_option maxHeartbeats 1000000 in
theorem cc_used (b : Nat) (w : World) (h0 : w.cell? ⟨b, 0, none⟩ = some (.pointer (some ⟨b, 0, none⟩))) :
    Calls Tryz.prog 49 #[.pointer (some ⟨b, 0, none⟩)] w fun e w' => e = .returned (.tuple #[]) ∧ w' = w := by
  obtain ⟨j, hj⟩ := Option.isSome_iff_exists.1 cc_i82
  go_enter Tryz.func49, Tryz.ntmps49
  go_wp2
  rw [Lib.run_neq_ptr_same w _ cc_t80 hj]
  go_wp2
  go_end0
  exact ⟨rfl, rfl⟩
theorem cc_s82 : (Tryz.prog.info? 82).map (·.size) = some 2 := by kernel_rfl
theorem cc_t145 : Tryz.prog.underlying 145 = some .unsafePointer := by kernel_rfl
theorem cc_c82 : Tryz.prog.cellsOf 82 = 2 := by kernel_rfl
theorem cc_lies (N : Nat) (hN : 2 ≤ N) : liesAt Tryz.prog Tryz.prog.depth 82 (N / Tryz.prog.cellsOf 82) 0 82 1 = true := by
  have hd : Tryz.prog.depth = (2 * (Tryz.prog.types.size + Made.depth) + 1) + 1 := rfl
  have h1 : 1 ≤ N / 2 := by omega
  rw [hd, cc_c82]
  simp only [liesAt, Bool.or_eq_true]
  left
  rw [hd]
  simp [rowAt, cc_c82, h1, sameLayout]
set_option maxHeartbeats 1000000 in
theorem cc_fresh (b N : Nat) (hN : 2 ≤ N) (w : World) (h0 : w.cell? ⟨b, 0, none⟩ = some (.pointer none)) (hsh : w.shape? b = some (82, N)) (hfz : w.frozen? ⟨b, 0, none⟩ = false) :
    Calls Tryz.prog 49 #[.pointer (some ⟨b, 0, none⟩)] w fun e w' => e = .returned (.tuple #[]) ∧ w' = w.setCell ⟨b, 0, none⟩ (.pointer (some ⟨b, 0, none⟩)) := by
  obtain ⟨j, hj, hjs⟩ := Option.map_eq_some_iff.1 cc_s82
  go_enter Tryz.func49, Tryz.ntmps49
  go_wp2
  rw [Lib.run_to_unsafe w ⟨b, 0, none⟩ cc_t80 cc_t145 hj (by rw [hjs]; decide) hsh (by show 0 < N; omega)]
  simp only [Result.andThen]
  rw [Oper.upon_value]
  go_wp2
  rw [run_callFunc_extern Tryz.func83 (by kernel_rfl) (by kernel_rfl) (by kernel_rfl) (e := Extern.AbiNoEscape.same) (by kernel_rfl)]
  rw [Lib.run_noEscape]
  simp only [Result.andThen]
  rw [Oper.upon_value]
  go_wp2
  rw [Lib.run_from_unsafe w ⟨b, 0, none⟩ cc_t145 cc_t80 hj hsh (cc_lies N hN)]
  simp only [Result.andThen]
  rw [Oper.upon_value]
  go_wp2
  go_end0
  exact ⟨rfl, rfl⟩
end Go.D
