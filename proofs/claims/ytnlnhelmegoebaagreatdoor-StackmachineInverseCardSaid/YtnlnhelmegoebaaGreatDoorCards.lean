/-
  DERIVED. GIVEN WITH THE SEED: THE CARDS: each row of YtnlnhelmegoebaaGreatDoorRows.lean that lists a variable, with what it lists TIED to the program's text (the seventh form; the later family's looks); each row that meets fmt, with fmt's text TOLD by the authors' own Lean function (tested against real Go, not proved from fmt's source: count such statements apart). THE CARD IS WHAT COUNTS. Prove the row's statement (the work); the ties are given (YtnlnhelmegoebaaGreatDoorTie.lean); close each card by the builder's one call (the guide's Derived/Test/ToyasCard.lean, 'card_holds'). Laid BY PROGRAM, IN A SANDBOX (cutbox-door.mjs). By AI agents, Wed Nov 11 2026. No macro, syntax, notation, axiom, sorry.
-/
import Derived.Test.YtnlnhelmegoebaaGreatDoorRows
import GoSem.ClaimSeven
namespace Go.Proofs.YtnlnhelmegoebaaGreatDoor
namespace Rows

/-- THE TIED CARD OF 'bowlinelaw26.StackmachineInverse'. -/
def stackmachineInverseCard : Claim7 := { stood := { row := stackmachineInverseRow, standIns := [], harness := (true, "fba9e91b4667ceea3decae36e3bce413589e0d3a4e6b3dd086adfc422c7b7fd4"), looks := true }, kinds := [], alts := [], laidByText := true, laidKinds := [.data, .data, .widerDeep, .widerDeep, .data, .data, .data, .data, .data, .sentinel, .sentinel, .data, .widerDeep, .pinned, .pinned], laidTests := true, laidLooks := .later }
def StackmachineInverseCardSaid : Prop := Claim7.holds Tryz.pinned (.plain (OpenSpec.ofChange stackmachineInverseSpec)) stackmachineInverseCard

/-- THE SECOND FORM's CARD OF 'bowlinelaw26.StackmachineInverse'. -/
def stackmachineInverseUptoCard : Claim7 := { stood := { row := stackmachineInverseUptoRow, standIns := [], harness := (true, "fba9e91b4667ceea3decae36e3bce413589e0d3a4e6b3dd086adfc422c7b7fd4"), looks := true }, kinds := [], alts := [], laidByText := true, laidKinds := [.data, .data, .widerDeep, .widerDeep, .data, .data, .data, .data, .data, .sentinel, .sentinel, .data, .widerDeep, .pinned, .pinned], laidTests := true, laidLooks := .later }
def StackmachineInverseUptoCardSaid : Prop := Claim7.holds Tryz.pinned (.plain (OpenSpec.upto stackmachineInverseSpec)) stackmachineInverseUptoCard
end Rows
end Go.Proofs.YtnlnhelmegoebaaGreatDoor
