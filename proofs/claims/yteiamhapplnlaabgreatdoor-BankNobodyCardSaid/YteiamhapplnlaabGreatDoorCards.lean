/-
  DERIVED. GIVEN WITH THE SEED: THE CARDS: each row of YteiamhapplnlaabGreatDoorRows.lean that lists a variable, with what it lists TIED to the program's text (the seventh form; the later family's looks); each row that meets fmt, with fmt's text TOLD by the authors' own Lean function (tested against real Go, not proved from fmt's source: count such statements apart). THE CARD IS WHAT COUNTS. Prove the row's statement (the work); the ties are given (YteiamhapplnlaabGreatDoorTie.lean); close each card by the builder's one call (the guide's Derived/Test/ToyasCard.lean, 'card_holds'). Laid BY PROGRAM, IN A SANDBOX (cutbox-door.mjs). By AI agents, Wed Nov 11 2026. No macro, syntax, notation, axiom, sorry.
-/
import Derived.Test.YteiamhapplnlaabGreatDoorRows
import GoSem.ClaimSeven
namespace Go.Proofs.YteiamhapplnlaabGreatDoor
namespace Rows

/-- THE TIED CARD OF 'corrodylaw09.BankNobody'. -/
def bankNobodyCard : Claim7 := { stood := { row := bankNobodyRow, standIns := [], harness := (true, "7bf8f764e409b562cabe9da5d29f2be3c4ab6502e1a96705d8b39f42751c9d21"), looks := true }, kinds := [], alts := [], laidByText := true, laidKinds := [.data, .data, .data, .data, .sentinel, .sentinel, .pinned], laidTests := true, laidLooks := .later }
def BankNobodyCardSaid : Prop := Claim7.holds Tryz.pinned (.plain (OpenSpec.ofChange bankNobodySpec)) bankNobodyCard

/-- THE SECOND FORM's CARD OF 'corrodylaw09.BankNobody'. -/
def bankNobodyUptoCard : Claim7 := { stood := { row := bankNobodyUptoRow, standIns := [], harness := (true, "7bf8f764e409b562cabe9da5d29f2be3c4ab6502e1a96705d8b39f42751c9d21"), looks := true }, kinds := [], alts := [], laidByText := true, laidKinds := [.data, .data, .data, .data, .sentinel, .sentinel, .pinned], laidTests := true, laidLooks := .later }
def BankNobodyUptoCardSaid : Prop := Claim7.holds Tryz.pinned (.plain (OpenSpec.upto bankNobodySpec)) bankNobodyUptoCard
end Rows
end Go.Proofs.YteiamhapplnlaabGreatDoor
