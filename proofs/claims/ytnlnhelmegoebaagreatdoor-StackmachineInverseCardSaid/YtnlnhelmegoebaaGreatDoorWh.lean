/- awake() itself, by a run of D in the kernel, alone in its process. -/
import Derived.Test.YtnlnhelmegoebaaGreatDoorWf
namespace Go.D
open Go.Proofs
set_option maxRecDepth 100000
theorem awakeRun : isV (runD (EV (tabL TQ)) 1000 5 [] ⟨17, .leaf⟩) (.bool true) = true := by kernel_rfl
def awT : List (List Value × Value) := [([], .bool true)]
theorem awF : Fine ((5, look awT) :: TQ) := FQ.runs (F := Tryz.f5) (by kernel_rfl) rfl (by
  intro p hp
  unfold awT at hp
  rcases List.mem_cons.1 hp with rfl | hp
  · exact ⟨by kernel_rfl, by kernel_rfl, by kernel_rfl, awakeRun⟩
  cases hp)
/-- All the oracles of the law. -/
def TL : List (Nat × Spec) := (5, look awT) :: TP
theorem FL : Fine TL := FP.cons awF.head
end Go.D
