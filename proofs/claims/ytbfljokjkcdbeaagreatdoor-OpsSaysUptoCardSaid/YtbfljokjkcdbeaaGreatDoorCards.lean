/-
  DERIVED. GIVEN WITH THE SEED: THE CARDS: each row of YtbfljokjkcdbeaaGreatDoorRows.lean that lists a variable, with what it lists TIED to the program's text (the seventh form; the later family's looks); each row that meets fmt, with fmt's text TOLD by the authors' own Lean function (tested against real Go, not proved from fmt's source: count such statements apart). THE CARD IS WHAT COUNTS. Prove the row's statement (the work); the ties are given (YtbfljokjkcdbeaaGreatDoorTie.lean); close each card by the builder's one call (the guide's Derived/Test/ToyasCard.lean, 'card_holds'). Laid BY PROGRAM, IN A SANDBOX (cutbox-door.mjs). By AI agents, Wed Nov 11 2026. No macro, syntax, notation, axiom, sorry.
-/
import Derived.Test.YtbfljokjkcdbeaaGreatDoorRows
import GoSem.ClaimSeven
namespace Go.Proofs.YtbfljokjkcdbeaaGreatDoor
namespace Rows

/-- THE TIED CARD OF 'foliowrightlaw.OpsSays'. -/
def opsSaysCard : Claim7 := { stood := { row := opsSaysRow, standIns := [], harness := (true, "1118454d2801b818ec50756cc91d02201a20d2ff112b2c27330bcbc2acb9a08d"), looks := true }, kinds := [], alts := [], laidByText := true, laidKinds := [.data, .data, .data, .data, .pinned], laidTests := true, laidLooks := .later }
def OpsSaysCardSaid : Prop := Claim7.holds Tryz.pinned (.plain (OpenSpec.ofChange opsSaysSpec)) opsSaysCard

/-- THE TIED CARD OF 'foliowrighttop.TopValue'. -/
def topValueCard : Claim7 := { stood := { row := topValueRow, standIns := [], harness := (true, "1118454d2801b818ec50756cc91d02201a20d2ff112b2c27330bcbc2acb9a08d"), looks := true }, kinds := [], alts := [], laidByText := true, laidKinds := [.data, .data, .data, .data, .pinned], laidTests := true, laidLooks := .later }
def TopValueCardSaid : Prop := Claim7.holds Tryz.pinned (.plain (OpenSpec.ofChange topValueSpec)) topValueCard

/-- THE SECOND FORM's CARD OF 'foliowrightlaw.OpsSays'. -/
def opsSaysUptoCard : Claim7 := { stood := { row := opsSaysUptoRow, standIns := [], harness := (true, "1118454d2801b818ec50756cc91d02201a20d2ff112b2c27330bcbc2acb9a08d"), looks := true }, kinds := [], alts := [], laidByText := true, laidKinds := [.data, .data, .data, .data, .pinned], laidTests := true, laidLooks := .later }
def OpsSaysUptoCardSaid : Prop := Claim7.holds Tryz.pinned (.plain (OpenSpec.upto opsSaysSpec)) opsSaysUptoCard

/-- THE SECOND FORM's CARD OF 'foliowrighttop.TopValue'. -/
def topValueUptoCard : Claim7 := { stood := { row := topValueUptoRow, standIns := [], harness := (true, "1118454d2801b818ec50756cc91d02201a20d2ff112b2c27330bcbc2acb9a08d"), looks := true }, kinds := [], alts := [], laidByText := true, laidKinds := [.data, .data, .data, .data, .pinned], laidTests := true, laidLooks := .later }
def TopValueUptoCardSaid : Prop := Claim7.holds Tryz.pinned (.plain (OpenSpec.upto topValueSpec)) topValueUptoCard
end Rows
end Go.Proofs.YtbfljokjkcdbeaaGreatDoor
