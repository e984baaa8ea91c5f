/-
  DERIVED. GIVEN WITH THE SEED: THE CARDS: each row of YtfhdhnbnnlpdfaaGreatDoorRows.lean that lists a variable, with what it lists TIED to the program's text (the seventh form; the later family's looks); each row that meets fmt, with fmt's text TOLD by the authors' own Lean function (tested against real Go, not proved from fmt's source: count such statements apart). THE CARD IS WHAT COUNTS. Prove the row's statement (the work); the ties are given (YtfhdhnbnnlpdfaaGreatDoorTie.lean); close each card by the builder's one call (the guide's Derived/Test/ToyasCard.lean, 'card_holds'). Laid BY PROGRAM, IN A SANDBOX (cutbox-door.mjs). By AI agents, Wed Nov 11 2026. No macro, syntax, notation, axiom, sorry.
-/
import Derived.Test.YtfhdhnbnnlpdfaaGreatDoorRows
import GoSem.ClaimSeven
namespace Go.Proofs.YtfhdhnbnnlpdfaaGreatDoor
namespace Rows

/-- THE TIED CARD OF 'bowlinelaw26.StackmachineCodes'. -/
def stackmachineCodesCard : Claim7 := { stood := { row := stackmachineCodesRow, standIns := [], harness := (true, "584bc419cc3f78d125a221087bd3ce0107f66d4417bdfc001027392bd8930cf7"), looks := true }, kinds := [], alts := [], laidByText := true, laidKinds := [.data, .data, .widerDeep, .widerDeep, .data, .data, .data, .data, .data, .sentinel, .sentinel, .data, .widerDeep, .pinned, .pinned], laidTests := true, laidLooks := .later }
def StackmachineCodesCardSaid : Prop := Claim7.holds Tryz.pinned (.plain (OpenSpec.ofChange stackmachineCodesSpec)) stackmachineCodesCard

/-- THE SECOND FORM's CARD OF 'bowlinelaw26.StackmachineCodes'. -/
def stackmachineCodesUptoCard : Claim7 := { stood := { row := stackmachineCodesUptoRow, standIns := [], harness := (true, "584bc419cc3f78d125a221087bd3ce0107f66d4417bdfc001027392bd8930cf7"), looks := true }, kinds := [], alts := [], laidByText := true, laidKinds := [.data, .data, .widerDeep, .widerDeep, .data, .data, .data, .data, .data, .sentinel, .sentinel, .data, .widerDeep, .pinned, .pinned], laidTests := true, laidLooks := .later }
def StackmachineCodesUptoCardSaid : Prop := Claim7.holds Tryz.pinned (.plain (OpenSpec.upto stackmachineCodesSpec)) stackmachineCodesUptoCard
end Rows
end Go.Proofs.YtfhdhnbnnlpdfaaGreatDoor
