/- The closed facts of the card, each by the kernel. -/
import Derived.Test.YtnlnhelmegoebaaGreatDoorRows
import Derived.Test.YtnlnhelmegoebaaGreatDoorCards
import Derived.ProofKit
import Derived.SevenTiedAt
import Derived.Stop.Joined
namespace Go.Proofs.YtnlnhelmegoebaaGreatDoor
open Go
set_option maxRecDepth 100000
theorem fc_named : Tryz.pinned.checked.prog.funcNamed Rows.stackmachineInverseRow.func = some 3 := by kernel_rfl
theorem fc_wf : Rows.stackmachineInverseRow.wfByText (OpenSpec.ofChange Rows.stackmachineInverseSpec) = true := by kernel_rfl
theorem fc_main : Tryz.pinned.checked.prog.mainIs = some (true, "fba9e91b4667ceea3decae36e3bce413589e0d3a4e6b3dd086adfc422c7b7fd4".toList) := by kernel_rfl
theorem fc_looks : true = Tryz.pinned.checked.prog.looks [] := by kernel_rfl
theorem fc_goes : false = Rows.stackmachineInverseRow.goesBy Tryz.pinned.checked.prog := by kernel_rfl
theorem fc_wants : ([22, 23].all fun u => !Tryz.pinned.checked.prog.wantsStandIn u) = true := by kernel_rfl
theorem fc_inst : Tryz.f3.isInstance Tryz.pinned.checked.prog Rows.stackmachineInverseRow.origin Rows.stackmachineInverseRow.targs := of_decide_eq_true (by kernel_rfl)
theorem fc_wrap : Tryz.f3.isWrapper Tryz.pinned.checked.prog Rows.stackmachineInverseRow.wrapper Rows.stackmachineInverseRow.mainSum := by
  unfold Func.isWrapper
  first | (rw [if_pos (by decide +kernel)]; kernel_rfl) | (rw [if_neg (by decide +kernel)]; exact ⟨rfl, rfl⟩)
end Go.Proofs.YtnlnhelmegoebaaGreatDoor
