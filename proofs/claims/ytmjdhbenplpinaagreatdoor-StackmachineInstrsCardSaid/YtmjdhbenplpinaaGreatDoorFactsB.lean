/- The closed facts of the card, each by the kernel. -/
import Derived.Test.YtmjdhbenplpinaaGreatDoorRows
import Derived.Test.YtmjdhbenplpinaaGreatDoorCards
import Derived.ProofKit
import Derived.SevenTiedAt
import Derived.Stop.Joined
namespace Go.Proofs.YtmjdhbenplpinaaGreatDoor
open Go
set_option maxRecDepth 100000
theorem fc_named : Tryz.pinned.checked.prog.funcNamed Rows.stackmachineInstrsRow.func = some 3 := by kernel_rfl
theorem fc_wf : Rows.stackmachineInstrsRow.wfByText (OpenSpec.ofChange Rows.stackmachineInstrsSpec) = true := by kernel_rfl
theorem fc_main : Tryz.pinned.checked.prog.mainIs = some (true, "3c867b380e6291c8e41257c63f2b60284cc2867dbb729e342c83bfeb53507a17".toList) := by kernel_rfl
theorem fc_looks : true = Tryz.pinned.checked.prog.looks [] := by kernel_rfl
theorem fc_any : Tryz.pinned.checked.prog.funcs.any Func.goes = false := by kernel_rfl
theorem goes_none {P : Program} (h : P.funcs.any Func.goes = false) (f : FuncId) : P.goes f = false := by
  have hg : ∀ g : FuncId, (P.funcs[g]?).any Func.goes = false := fun g => by
    cases hf : P.funcs[g]? with
    | none => rfl
    | some F =>
      rw [Array.any_eq_false'] at h
      have := h F (Array.mem_of_getElem? hf)
      simpa using this
  unfold Program.goes
  simp [h, hg]
theorem goesBy_none (c : OpenClaim) {P : Program} (h : P.funcs.any Func.goes = false) : false = c.goesBy P := by
  unfold OpenClaim.goesBy Program.goesAt Program.goesFrom
  have h1 : ∀ o : Option FuncId, o.any P.goes = false := fun o => by cases o <;> simp [goes_none h]
  have h2 : ∀ l : List FuncId, l.any P.goes = false := fun l => by simp [goes_none h]
  rw [h1]
  cases c.start <;> simp [h2]
theorem fc_goes : false = Rows.stackmachineInstrsRow.goesBy Tryz.pinned.checked.prog := goesBy_none _ fc_any
theorem fc_wants : ([22, 3].all fun u => !Tryz.pinned.checked.prog.wantsStandIn u) = true := by kernel_rfl
theorem fc_inst : Tryz.f3.isInstance Tryz.pinned.checked.prog Rows.stackmachineInstrsRow.origin Rows.stackmachineInstrsRow.targs := of_decide_eq_true (by kernel_rfl)
theorem fc_wrap : Tryz.f3.isWrapper Tryz.pinned.checked.prog Rows.stackmachineInstrsRow.wrapper Rows.stackmachineInstrsRow.mainSum := by
  unfold Func.isWrapper
  first | (rw [if_pos (by decide +kernel)]; kernel_rfl) | (rw [if_neg (by decide +kernel)]; exact ⟨rfl, rfl⟩)
end Go.Proofs.YtmjdhbenplpinaaGreatDoor
