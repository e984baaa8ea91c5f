/- Environments: oracles, and what was in memory. -/
import Derived.Test.YtnlnhelmegoebaaGreatDoorEnv
import Derived.Test.YtnlnhelmegoebaaGreatDoorDb
namespace Go.D
/-- Oracles; the blocks that were there: how many, and what they hold. -/
structure Tab where
  f : Nat → List Value → Option Value
  ng : Nat
  gl : Nat → Nat → Option Value
noncomputable def EV (tab : Tab) : Env := { over E0 tab.f with ng := tab.ng, glob := tab.gl }
end Go.D
