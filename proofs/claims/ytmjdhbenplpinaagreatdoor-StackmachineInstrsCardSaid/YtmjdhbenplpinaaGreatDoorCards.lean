/-
  DERIVED. GIVEN WITH THE SEED: THE CARDS: each row of YtmjdhbenplpinaaGreatDoorRows.lean that lists a variable, with what it lists TIED to the program's text (the seventh form; the later family's looks); each row that meets fmt, with fmt's text TOLD by the authors' own Lean function (tested against real Go, not proved from fmt's source: count such statements apart). THE CARD IS WHAT COUNTS. Prove the row's statement (the work); the ties are given (YtmjdhbenplpinaaGreatDoorTie.lean); close each card by the builder's one call (the guide's Derived/Test/ToyasCard.lean, 'card_holds'). Laid BY PROGRAM, IN A SANDBOX (cutbox-door.mjs). By AI agents, Wed Nov 11 2026. No macro, syntax, notation, axiom, sorry.
-/
import Derived.Test.YtmjdhbenplpinaaGreatDoorRows
import GoSem.ClaimSeven
namespace Go.Proofs.YtmjdhbenplpinaaGreatDoor
namespace Rows

/-- THE TIED CARD OF 'bowlinelaw26.StackmachineInstrs'. -/
def stackmachineInstrsCard : Claim7 := { stood := { row := stackmachineInstrsRow, standIns := [], harness := (true, "3c867b380e6291c8e41257c63f2b60284cc2867dbb729e342c83bfeb53507a17"), looks := true }, kinds := [], alts := [], laidByText := true, laidKinds := [.data, .data, .widerDeep, .widerDeep, .data, .data, .data, .data, .data, .sentinel, .sentinel, .data, .widerDeep, .pinned, .pinned], laidTests := true, laidLooks := .later }
def StackmachineInstrsCardSaid : Prop := Claim7.holds Tryz.pinned (.plain (OpenSpec.ofChange stackmachineInstrsSpec)) stackmachineInstrsCard

/-- THE SECOND FORM's CARD OF 'bowlinelaw26.StackmachineInstrs'. -/
def stackmachineInstrsUptoCard : Claim7 := { stood := { row := stackmachineInstrsUptoRow, standIns := [], harness := (true, "3c867b380e6291c8e41257c63f2b60284cc2867dbb729e342c83bfeb53507a17"), looks := true }, kinds := [], alts := [], laidByText := true, laidKinds := [.data, .data, .widerDeep, .widerDeep, .data, .data, .data, .data, .data, .sentinel, .sentinel, .data, .widerDeep, .pinned, .pinned], laidTests := true, laidLooks := .later }
def StackmachineInstrsUptoCardSaid : Prop := Claim7.holds Tryz.pinned (.plain (OpenSpec.upto stackmachineInstrsSpec)) stackmachineInstrsUptoCard
end Rows
end Go.Proofs.YtmjdhbenplpinaaGreatDoor
