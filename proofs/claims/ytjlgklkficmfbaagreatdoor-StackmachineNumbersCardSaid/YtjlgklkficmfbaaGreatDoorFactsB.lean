/- The closed facts of the card, each by the kernel. -/
import Derived.Test.YtjlgklkficmfbaaGreatDoorRows
import Derived.Test.YtjlgklkficmfbaaGreatDoorCards
import Derived.ProofKit
import Derived.SevenTiedAt
import Derived.Stop.Joined
namespace Go.Proofs.YtjlgklkficmfbaaGreatDoor
open Go
set_option maxRecDepth 100000
theorem fc_named : Tryz.pinned.checked.prog.funcNamed Rows.stackmachineNumbersRow.func = some 3 := by kernel_rfl
theorem fc_wf : Rows.stackmachineNumbersRow.wfByText (OpenSpec.ofChange Rows.stackmachineNumbersSpec) = true := by kernel_rfl
theorem fc_main : Tryz.pinned.checked.prog.mainIs = some (true, "04394dd97a3b046f790969d2794cadc98be4f236833fb51b22558f2b0b18a09d".toList) := by kernel_rfl
theorem fc_looks : true = Tryz.pinned.checked.prog.looks [] := by kernel_rfl
theorem fc_goes : false = Rows.stackmachineNumbersRow.goesBy Tryz.pinned.checked.prog := by kernel_rfl
theorem fc_wants : ([22].all fun u => !Tryz.pinned.checked.prog.wantsStandIn u) = true := by kernel_rfl
theorem fc_inst : Tryz.f3.isInstance Tryz.pinned.checked.prog Rows.stackmachineNumbersRow.origin Rows.stackmachineNumbersRow.targs := of_decide_eq_true (by kernel_rfl)
theorem fc_wrap : Tryz.f3.isWrapper Tryz.pinned.checked.prog Rows.stackmachineNumbersRow.wrapper Rows.stackmachineNumbersRow.mainSum := by
  unfold Func.isWrapper
  first | (rw [if_pos (by decide +kernel)]; kernel_rfl) | (rw [if_neg (by decide +kernel)]; exact ⟨rfl, rfl⟩)
end Go.Proofs.YtjlgklkficmfbaaGreatDoor
