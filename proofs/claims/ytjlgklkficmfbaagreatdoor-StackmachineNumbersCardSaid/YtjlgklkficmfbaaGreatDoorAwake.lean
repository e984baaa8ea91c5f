/- awake() answers true: one run of D in the kernel, with the tables of pure calls laid over it. -/
import Derived.Test.YtjlgklkficmfbaaGreatDoorOrc
namespace Go.D
open Go.Proofs
set_option maxRecDepth 100000
theorem awakeRun : isV (runD E2 1000 7 [] ⟨E2.ng, .leaf⟩) (.bool true) = true := by kernel_rfl
end Go.D
