/- Tables of oracles. -/
import Derived.Test.YtmjdhbenplpinaaGreatDoorEV
namespace Go.D
open Go.Proofs
/-! ### A tower of oracles -/
abbrev Spec := List Value → Option Value
def tabF : List (Nat × Spec) → Nat → List Value → Option Value
  | [], _, _ => none
  | (g, s) :: l, f, args => bif Nat.beq f g then s args else tabF l f args
/-- The oracles of a list, at the empty heap. -/
noncomputable def tabL (T : List (Nat × Spec)) : Tab := ⟨tabF T, 17, E0.glob⟩
end Go.D
