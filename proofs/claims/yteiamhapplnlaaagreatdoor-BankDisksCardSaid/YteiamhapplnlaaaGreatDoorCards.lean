/-
  DERIVED. GIVEN WITH THE SEED: THE CARDS: each row of YteiamhapplnlaaaGreatDoorRows.lean that lists a variable, with what it lists TIED to the program's text (the seventh form; the later family's looks); each row that meets fmt, with fmt's text TOLD by the authors' own Lean function (tested against real Go, not proved from fmt's source: count such statements apart). THE CARD IS WHAT COUNTS. Prove the row's statement (the work); the ties are given (YteiamhapplnlaaaGreatDoorTie.lean); close each card by the builder's one call (the guide's Derived/Test/ToyasCard.lean, 'card_holds'). Laid BY PROGRAM, IN A SANDBOX (cutbox-door.mjs). By AI agents, Wed Nov 11 2026. No macro, syntax, notation, axiom, sorry.
-/
import Derived.Test.YteiamhapplnlaaaGreatDoorRows
import GoSem.ClaimSeven
namespace Go.Proofs.YteiamhapplnlaaaGreatDoor
namespace Rows

/-- THE TIED CARD OF 'corrodylaw09.BankDisks'. -/
def bankDisksCard : Claim7 := { stood := { row := bankDisksRow, standIns := [], harness := (true, "51617cdc16f95866e9c0917a7901256eb5a5edb81daf80fadb544e96dff71770"), looks := true }, kinds := [], alts := [], laidByText := true, laidKinds := [.data, .data, .data, .data, .sentinel, .sentinel, .pinned], laidTests := true, laidLooks := .later }
def BankDisksCardSaid : Prop := Claim7.holds Tryz.pinned (.plain (OpenSpec.ofChange bankDisksSpec)) bankDisksCard

/-- THE TIED CARD OF 'corrodylaw09.BankKept'. -/
def bankKeptCard : Claim7 := { stood := { row := bankKeptRow, standIns := [], harness := (true, "51617cdc16f95866e9c0917a7901256eb5a5edb81daf80fadb544e96dff71770"), looks := true }, kinds := [], alts := [], laidByText := true, laidKinds := [.data, .data, .data, .data, .sentinel, .sentinel, .pinned], laidTests := true, laidLooks := .later }
def BankKeptCardSaid : Prop := Claim7.holds Tryz.pinned (.plain (OpenSpec.ofChange bankKeptSpec)) bankKeptCard

/-- THE TIED CARD OF 'corrodylaw09.BankBytes'. -/
def bankBytesCard : Claim7 := { stood := { row := bankBytesRow, standIns := [], harness := (true, "51617cdc16f95866e9c0917a7901256eb5a5edb81daf80fadb544e96dff71770"), looks := true }, kinds := [], alts := [], laidByText := true, laidKinds := [.data, .data, .data, .data, .sentinel, .sentinel, .pinned], laidTests := true, laidLooks := .later }
def BankBytesCardSaid : Prop := Claim7.holds Tryz.pinned (.plain (OpenSpec.ofChange bankBytesSpec)) bankBytesCard

/-- THE SECOND FORM's CARD OF 'corrodylaw09.BankDisks'. -/
def bankDisksUptoCard : Claim7 := { stood := { row := bankDisksUptoRow, standIns := [], harness := (true, "51617cdc16f95866e9c0917a7901256eb5a5edb81daf80fadb544e96dff71770"), looks := true }, kinds := [], alts := [], laidByText := true, laidKinds := [.data, .data, .data, .data, .sentinel, .sentinel, .pinned], laidTests := true, laidLooks := .later }
def BankDisksUptoCardSaid : Prop := Claim7.holds Tryz.pinned (.plain (OpenSpec.upto bankDisksSpec)) bankDisksUptoCard

/-- THE SECOND FORM's CARD OF 'corrodylaw09.BankKept'. -/
def bankKeptUptoCard : Claim7 := { stood := { row := bankKeptUptoRow, standIns := [], harness := (true, "51617cdc16f95866e9c0917a7901256eb5a5edb81daf80fadb544e96dff71770"), looks := true }, kinds := [], alts := [], laidByText := true, laidKinds := [.data, .data, .data, .data, .sentinel, .sentinel, .pinned], laidTests := true, laidLooks := .later }
def BankKeptUptoCardSaid : Prop := Claim7.holds Tryz.pinned (.plain (OpenSpec.upto bankKeptSpec)) bankKeptUptoCard

/-- THE SECOND FORM's CARD OF 'corrodylaw09.BankBytes'. -/
def bankBytesUptoCard : Claim7 := { stood := { row := bankBytesUptoRow, standIns := [], harness := (true, "51617cdc16f95866e9c0917a7901256eb5a5edb81daf80fadb544e96dff71770"), looks := true }, kinds := [], alts := [], laidByText := true, laidKinds := [.data, .data, .data, .data, .sentinel, .sentinel, .pinned], laidTests := true, laidLooks := .later }
def BankBytesUptoCardSaid : Prop := Claim7.holds Tryz.pinned (.plain (OpenSpec.upto bankBytesSpec)) bankBytesUptoCard
end Rows
end Go.Proofs.YteiamhapplnlaaaGreatDoor
