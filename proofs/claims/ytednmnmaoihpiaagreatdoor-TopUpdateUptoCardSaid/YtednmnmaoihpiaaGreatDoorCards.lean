/-
  DERIVED. GIVEN WITH THE SEED: THE CARDS: each row of YtednmnmaoihpiaaGreatDoorRows.lean that lists a variable, with what it lists TIED to the program's text (the seventh form; the later family's looks); each row that meets fmt, with fmt's text TOLD by the authors' own Lean function (tested against real Go, not proved from fmt's source: count such statements apart). THE CARD IS WHAT COUNTS. Prove the row's statement (the work); the ties are given (YtednmnmaoihpiaaGreatDoorTie.lean); close each card by the builder's one call (the guide's Derived/Test/ToyasCard.lean, 'card_holds'). Laid BY PROGRAM, IN A SANDBOX (cutbox-door.mjs). By AI agents, Wed Nov 11 2026. No macro, syntax, notation, axiom, sorry.
-/
import Derived.Test.YtednmnmaoihpiaaGreatDoorRows
import GoSem.ClaimSeven
namespace Go.Proofs.YtednmnmaoihpiaaGreatDoor
namespace Rows

/-- THE TIED CARD OF 'foliowrighttop.TopFile'. -/
def topFileCard : Claim7 := { stood := { row := topFileRow, standIns := [], harness := (true, "1c210c6778d8acc9bac5876cbcbdf858c4c7dd11e3fed719a26cc83305f2bfa3"), looks := false }, kinds := [], alts := [], laidByText := true, laidKinds := [.data, .data, .data, .data, .pinned], laidTests := true, laidLooks := .later }
def TopFileCardSaid : Prop := Claim7.holds Tryz.pinned (.plain (OpenSpec.ofChange topFileSpec)) topFileCard

/-- THE TIED CARD OF 'foliowrighttop.TopUpdate'. -/
def topUpdateCard : Claim7 := { stood := { row := topUpdateRow, standIns := [], harness := (true, "1c210c6778d8acc9bac5876cbcbdf858c4c7dd11e3fed719a26cc83305f2bfa3"), looks := false }, kinds := [], alts := [], laidByText := true, laidKinds := [.data, .data, .data, .data, .pinned], laidTests := true, laidLooks := .later }
def TopUpdateCardSaid : Prop := Claim7.holds Tryz.pinned (.plain (OpenSpec.ofChange topUpdateSpec)) topUpdateCard

/-- THE SECOND FORM's CARD OF 'foliowrighttop.TopFile'. -/
def topFileUptoCard : Claim7 := { stood := { row := topFileUptoRow, standIns := [], harness := (true, "1c210c6778d8acc9bac5876cbcbdf858c4c7dd11e3fed719a26cc83305f2bfa3"), looks := false }, kinds := [], alts := [], laidByText := true, laidKinds := [.data, .data, .data, .data, .pinned], laidTests := true, laidLooks := .later }
def TopFileUptoCardSaid : Prop := Claim7.holds Tryz.pinned (.plain (OpenSpec.upto topFileSpec)) topFileUptoCard

/-- THE SECOND FORM's CARD OF 'foliowrighttop.TopUpdate'. -/
def topUpdateUptoCard : Claim7 := { stood := { row := topUpdateUptoRow, standIns := [], harness := (true, "1c210c6778d8acc9bac5876cbcbdf858c4c7dd11e3fed719a26cc83305f2bfa3"), looks := false }, kinds := [], alts := [], laidByText := true, laidKinds := [.data, .data, .data, .data, .pinned], laidTests := true, laidLooks := .later }
def TopUpdateUptoCardSaid : Prop := Claim7.holds Tryz.pinned (.plain (OpenSpec.upto topUpdateSpec)) topUpdateUptoCard
end Rows
end Go.Proofs.YtednmnmaoihpiaaGreatDoor
