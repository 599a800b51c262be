/-
  DERIVED. GIVEN WITH THE SEED: THE CARDS: each row of YtfkdhlghpjbbpaaGreatDoorRows.lean that lists a variable, with what it lists TIED to the program's text (the seventh form; the later family's looks); each row that meets fmt, with fmt's text TOLD by the authors' own Lean function (tested against real Go, not proved from fmt's source: count such statements apart). THE CARD IS WHAT COUNTS. Prove the row's statement (the work); the ties are given (YtfkdhlghpjbbpaaGreatDoorTie.lean); close each card by the builder's one call (the guide's Derived/Test/ToyasCard.lean, 'card_holds'). Laid BY PROGRAM, IN A SANDBOX (cutbox-door.mjs). By AI agents, Wed Nov 11 2026. No macro, syntax, notation, axiom, sorry.
-/
import Derived.Test.YtfkdhlghpjbbpaaGreatDoorRows
import GoSem.ClaimSeven
namespace Go.Proofs.YtfkdhlghpjbbpaaGreatDoor
namespace Rows

/-- THE TIED CARD OF 'foliowrightlaw.PaintSays'. -/
def paintSaysCard : Claim7 := { stood := { row := paintSaysRow, standIns := [], harness := (true, "b7007662d3a60fb1240f1c20bdf16f02660c988fa0670db85edd0e4a7d013aeb"), looks := true }, kinds := [], alts := [], laidByText := true, laidKinds := [.data, .pinned], laidTests := true, laidLooks := .later }
def PaintSaysCardSaid : Prop := Claim7.holds Tryz.pinned (.plain (OpenSpec.ofChange paintSaysSpec)) paintSaysCard

/-- THE TIED CARD OF 'foliowrighttop.TopShift'. -/
def topShiftCard : Claim7 := { stood := { row := topShiftRow, standIns := [], harness := (true, "b7007662d3a60fb1240f1c20bdf16f02660c988fa0670db85edd0e4a7d013aeb"), looks := true }, kinds := [], alts := [], laidByText := true, laidKinds := [.data, .pinned], laidTests := true, laidLooks := .later }
def TopShiftCardSaid : Prop := Claim7.holds Tryz.pinned (.plain (OpenSpec.ofChange topShiftSpec)) topShiftCard

/-- THE TIED CARD OF 'foliowrighttop.TopSave'. -/
def topSaveCard : Claim7 := { stood := { row := topSaveRow, standIns := [], harness := (true, "b7007662d3a60fb1240f1c20bdf16f02660c988fa0670db85edd0e4a7d013aeb"), looks := true }, kinds := [], alts := [], laidByText := true, laidKinds := [.data, .pinned], laidTests := true, laidLooks := .later }
def TopSaveCardSaid : Prop := Claim7.holds Tryz.pinned (.plain (OpenSpec.ofChange topSaveSpec)) topSaveCard

/-- THE TIED CARD OF 'foliowrighttop.TopSplit'. -/
def topSplitCard : Claim7 := { stood := { row := topSplitRow, standIns := [], harness := (true, "b7007662d3a60fb1240f1c20bdf16f02660c988fa0670db85edd0e4a7d013aeb"), looks := true }, kinds := [], alts := [], laidByText := true, laidKinds := [.data, .pinned], laidTests := true, laidLooks := .later }
def TopSplitCardSaid : Prop := Claim7.holds Tryz.pinned (.plain (OpenSpec.ofChange topSplitSpec)) topSplitCard

/-- THE SECOND FORM's CARD OF 'foliowrightlaw.PaintSays'. -/
def paintSaysUptoCard : Claim7 := { stood := { row := paintSaysUptoRow, standIns := [], harness := (true, "b7007662d3a60fb1240f1c20bdf16f02660c988fa0670db85edd0e4a7d013aeb"), looks := true }, kinds := [], alts := [], laidByText := true, laidKinds := [.data, .pinned], laidTests := true, laidLooks := .later }
def PaintSaysUptoCardSaid : Prop := Claim7.holds Tryz.pinned (.plain (OpenSpec.upto paintSaysSpec)) paintSaysUptoCard

/-- THE SECOND FORM's CARD OF 'foliowrighttop.TopShift'. -/
def topShiftUptoCard : Claim7 := { stood := { row := topShiftUptoRow, standIns := [], harness := (true, "b7007662d3a60fb1240f1c20bdf16f02660c988fa0670db85edd0e4a7d013aeb"), looks := true }, kinds := [], alts := [], laidByText := true, laidKinds := [.data, .pinned], laidTests := true, laidLooks := .later }
def TopShiftUptoCardSaid : Prop := Claim7.holds Tryz.pinned (.plain (OpenSpec.upto topShiftSpec)) topShiftUptoCard

/-- THE SECOND FORM's CARD OF 'foliowrighttop.TopSave'. -/
def topSaveUptoCard : Claim7 := { stood := { row := topSaveUptoRow, standIns := [], harness := (true, "b7007662d3a60fb1240f1c20bdf16f02660c988fa0670db85edd0e4a7d013aeb"), looks := true }, kinds := [], alts := [], laidByText := true, laidKinds := [.data, .pinned], laidTests := true, laidLooks := .later }
def TopSaveUptoCardSaid : Prop := Claim7.holds Tryz.pinned (.plain (OpenSpec.upto topSaveSpec)) topSaveUptoCard

/-- THE SECOND FORM's CARD OF 'foliowrighttop.TopSplit'. -/
def topSplitUptoCard : Claim7 := { stood := { row := topSplitUptoRow, standIns := [], harness := (true, "b7007662d3a60fb1240f1c20bdf16f02660c988fa0670db85edd0e4a7d013aeb"), looks := true }, kinds := [], alts := [], laidByText := true, laidKinds := [.data, .pinned], laidTests := true, laidLooks := .later }
def TopSplitUptoCardSaid : Prop := Claim7.holds Tryz.pinned (.plain (OpenSpec.upto topSplitSpec)) topSplitUptoCard
end Rows
end Go.Proofs.YtfkdhlghpjbbpaaGreatDoor
