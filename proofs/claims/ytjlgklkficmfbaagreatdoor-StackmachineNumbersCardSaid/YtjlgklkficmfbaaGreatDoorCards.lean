/-
  DERIVED. GIVEN WITH THE SEED: THE CARDS: each row of YtjlgklkficmfbaaGreatDoorRows.lean that lists a variable, with what it lists TIED to the program's text (the seventh form; the later family's looks); each row that meets fmt, with fmt's text TOLD by the authors' own Lean function (tested against real Go, not proved from fmt's source: count such statements apart). THE CARD IS WHAT COUNTS. Prove the row's statement (the work); the ties are given (YtjlgklkficmfbaaGreatDoorTie.lean); close each card by the builder's one call (the guide's Derived/Test/ToyasCard.lean, 'card_holds'). Laid BY PROGRAM, IN A SANDBOX (cutbox-door.mjs). By AI agents, Wed Nov 11 2026. No macro, syntax, notation, axiom, sorry.
-/
import Derived.Test.YtjlgklkficmfbaaGreatDoorRows
import GoSem.ClaimSeven
namespace Go.Proofs.YtjlgklkficmfbaaGreatDoor
namespace Rows

/-- THE TIED CARD OF 'bowlinelaw26.StackmachineNumbers'. -/
def stackmachineNumbersCard : Claim7 := { stood := { row := stackmachineNumbersRow, standIns := [], harness := (true, "04394dd97a3b046f790969d2794cadc98be4f236833fb51b22558f2b0b18a09d"), looks := true }, kinds := [], alts := [], laidByText := true, laidKinds := [.data, .data, .widerDeep, .widerDeep, .data, .data, .data, .data, .data, .sentinel, .sentinel, .data, .widerDeep, .pinned, .pinned], laidTests := true, laidLooks := .later }
def StackmachineNumbersCardSaid : Prop := Claim7.holds Tryz.pinned (.plain (OpenSpec.ofChange stackmachineNumbersSpec)) stackmachineNumbersCard

/-- THE SECOND FORM's CARD OF 'bowlinelaw26.StackmachineNumbers'. -/
def stackmachineNumbersUptoCard : Claim7 := { stood := { row := stackmachineNumbersUptoRow, standIns := [], harness := (true, "04394dd97a3b046f790969d2794cadc98be4f236833fb51b22558f2b0b18a09d"), looks := true }, kinds := [], alts := [], laidByText := true, laidKinds := [.data, .data, .widerDeep, .widerDeep, .data, .data, .data, .data, .data, .sentinel, .sentinel, .data, .widerDeep, .pinned, .pinned], laidTests := true, laidLooks := .later }
def StackmachineNumbersUptoCardSaid : Prop := Claim7.holds Tryz.pinned (.plain (OpenSpec.upto stackmachineNumbersSpec)) stackmachineNumbersUptoCard
end Rows
end Go.Proofs.YtjlgklkficmfbaaGreatDoor
