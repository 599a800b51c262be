/-
  DERIVED. GIVEN WITH THE SEED: THE CARDS: each row of YtkkdhgibaimboaaDoorRows.lean that lists a variable, with what it lists TIED to the program's text (the seventh form; the later family's looks); each row that meets fmt, with fmt's text TOLD by the authors' own Lean function (tested against real Go, not proved from fmt's source: count such statements apart). THE CARD IS WHAT COUNTS. Prove the row's statement (the work); the ties are given (YtkkdhgibaimboaaDoorTie.lean); close each card by the builder's one call (the guide's Derived/Test/ToyasCard.lean, 'card_holds'). Laid BY PROGRAM, IN A SANDBOX (cutbox-door.mjs). By AI agents, Wed Nov 11 2026. No macro, syntax, notation, axiom, sorry.
-/
import Derived.Test.YtkkdhgibaimboaaDoorRows
import GoSem.ClaimSeven
namespace Go.Proofs.YtkkdhgibaimboaaDoor
namespace Rows

/-- THE TIED CARD OF 'foliowrightlaw.GlyphSays'. -/
def glyphSaysCard : Claim7 := { stood := { row := glyphSaysRow, standIns := [], harness := (true, "6518c58d7f265abd68587122ba8577672478e2b4be1e5ad0632709d1d2fb216a"), looks := true }, kinds := [], alts := [], laidByText := true, laidKinds := [.data, .pinned], laidTests := true, laidLooks := .later }
def GlyphSaysCardSaid : Prop := Claim7.holds Tryd.pinned (.plain (OpenSpec.ofChange glyphSaysSpec)) glyphSaysCard

/-- THE TIED CARD OF 'foliowrightlaw.Names'. -/
def namesCard : Claim7 := { stood := { row := namesRow, standIns := [], harness := (true, "6518c58d7f265abd68587122ba8577672478e2b4be1e5ad0632709d1d2fb216a"), looks := true }, kinds := [], alts := [], laidByText := true, laidKinds := [.data, .data, .data], laidTests := true, laidLooks := .later }
def NamesCardSaid : Prop := Claim7.holds Tryd.pinned (.plain (OpenSpec.ofChange namesSpec)) namesCard

/-- THE TIED CARD OF 'foliowrightlaw.FixSays'. -/
def fixSaysCard : Claim7 := { stood := { row := fixSaysRow, standIns := [], harness := (true, "6518c58d7f265abd68587122ba8577672478e2b4be1e5ad0632709d1d2fb216a"), looks := true }, kinds := [], alts := [], laidByText := true, laidKinds := [.data, .data, .data, .data, .pinned], laidTests := true, laidLooks := .later }
def FixSaysCardSaid : Prop := Claim7.holds Tryd.pinned (.plain (OpenSpec.ofChange fixSaysSpec)) fixSaysCard

/-- THE TIED CARD OF 'foliowrightlaw.MatrixSays'. -/
def matrixSaysCard : Claim7 := { stood := { row := matrixSaysRow, standIns := [], harness := (true, "6518c58d7f265abd68587122ba8577672478e2b4be1e5ad0632709d1d2fb216a"), looks := true }, kinds := [], alts := [], laidByText := true, laidKinds := [.data, .data, .data, .data, .pinned], laidTests := true, laidLooks := .later }
def MatrixSaysCardSaid : Prop := Claim7.holds Tryd.pinned (.plain (OpenSpec.ofChange matrixSaysSpec)) matrixSaysCard

/-- THE TIED CARD OF 'foliowrightlaw.CmapReads'. -/
def cmapReadsCard : Claim7 := { stood := { row := cmapReadsRow, standIns := [], harness := (true, "6518c58d7f265abd68587122ba8577672478e2b4be1e5ad0632709d1d2fb216a"), looks := true }, kinds := [], alts := [], laidByText := true, laidKinds := [.data, .pinned], laidTests := true, laidLooks := .later }
def CmapReadsCardSaid : Prop := Claim7.holds Tryd.pinned (.plain (OpenSpec.ofChange cmapReadsSpec)) cmapReadsCard

/-- THE TIED CARD OF 'foliowrightlaw.CmapSays'. -/
def cmapSaysCard : Claim7 := { stood := { row := cmapSaysRow, standIns := [], harness := (true, "6518c58d7f265abd68587122ba8577672478e2b4be1e5ad0632709d1d2fb216a"), looks := true }, kinds := [], alts := [], laidByText := true, laidKinds := [.data, .pinned], laidTests := true, laidLooks := .later }
def CmapSaysCardSaid : Prop := Claim7.holds Tryd.pinned (.plain (OpenSpec.ofChange cmapSaysSpec)) cmapSaysCard

/-- THE TIED CARD OF 'foliowrightlaw.ValueSays'. -/
def valueSaysCard : Claim7 := { stood := { row := valueSaysRow, standIns := [], harness := (true, "6518c58d7f265abd68587122ba8577672478e2b4be1e5ad0632709d1d2fb216a"), looks := true }, kinds := [], alts := [], laidByText := true, laidKinds := [.data, .data, .data, .data, .pinned], laidTests := true, laidLooks := .later }
def ValueSaysCardSaid : Prop := Claim7.holds Tryd.pinned (.plain (OpenSpec.ofChange valueSaysSpec)) valueSaysCard

/-- THE TIED CARD OF 'foliowrighttop.TopSigns'. -/
def topSignsCard : Claim7 := { stood := { row := topSignsRow, standIns := [], harness := (true, "6518c58d7f265abd68587122ba8577672478e2b4be1e5ad0632709d1d2fb216a"), looks := true }, kinds := [], alts := [], laidByText := true, laidKinds := [.data, .pinned], laidTests := true, laidLooks := .later }
def TopSignsCardSaid : Prop := Claim7.holds Tryd.pinned (.plain (OpenSpec.ofChange topSignsSpec)) topSignsCard

/-- THE TIED CARD OF 'foliowrighttop.TopFix'. -/
def topFixCard : Claim7 := { stood := { row := topFixRow, standIns := [], harness := (true, "6518c58d7f265abd68587122ba8577672478e2b4be1e5ad0632709d1d2fb216a"), looks := true }, kinds := [], alts := [], laidByText := true, laidKinds := [.data, .data, .data, .data, .pinned], laidTests := true, laidLooks := .later }
def TopFixCardSaid : Prop := Claim7.holds Tryd.pinned (.plain (OpenSpec.ofChange topFixSpec)) topFixCard

/-- THE TIED CARD OF 'foliowrighttop.TopCmap'. -/
def topCmapCard : Claim7 := { stood := { row := topCmapRow, standIns := [], harness := (true, "6518c58d7f265abd68587122ba8577672478e2b4be1e5ad0632709d1d2fb216a"), looks := true }, kinds := [], alts := [], laidByText := true, laidKinds := [.data, .pinned], laidTests := true, laidLooks := .later }
def TopCmapCardSaid : Prop := Claim7.holds Tryd.pinned (.plain (OpenSpec.ofChange topCmapSpec)) topCmapCard

/-- THE SECOND FORM's CARD OF 'foliowrightlaw.GlyphSays'. -/
def glyphSaysUptoCard : Claim7 := { stood := { row := glyphSaysUptoRow, standIns := [], harness := (true, "6518c58d7f265abd68587122ba8577672478e2b4be1e5ad0632709d1d2fb216a"), looks := true }, kinds := [], alts := [], laidByText := true, laidKinds := [.data, .pinned], laidTests := true, laidLooks := .later }
def GlyphSaysUptoCardSaid : Prop := Claim7.holds Tryd.pinned (.plain (OpenSpec.upto glyphSaysSpec)) glyphSaysUptoCard

/-- THE SECOND FORM's CARD OF 'foliowrightlaw.Names'. -/
def namesUptoCard : Claim7 := { stood := { row := namesUptoRow, standIns := [], harness := (true, "6518c58d7f265abd68587122ba8577672478e2b4be1e5ad0632709d1d2fb216a"), looks := true }, kinds := [], alts := [], laidByText := true, laidKinds := [.data, .data, .data], laidTests := true, laidLooks := .later }
def NamesUptoCardSaid : Prop := Claim7.holds Tryd.pinned (.plain (OpenSpec.upto namesSpec)) namesUptoCard

/-- THE SECOND FORM's CARD OF 'foliowrightlaw.FixSays'. -/
def fixSaysUptoCard : Claim7 := { stood := { row := fixSaysUptoRow, standIns := [], harness := (true, "6518c58d7f265abd68587122ba8577672478e2b4be1e5ad0632709d1d2fb216a"), looks := true }, kinds := [], alts := [], laidByText := true, laidKinds := [.data, .data, .data, .data, .pinned], laidTests := true, laidLooks := .later }
def FixSaysUptoCardSaid : Prop := Claim7.holds Tryd.pinned (.plain (OpenSpec.upto fixSaysSpec)) fixSaysUptoCard

/-- THE SECOND FORM's CARD OF 'foliowrightlaw.MatrixSays'. -/
def matrixSaysUptoCard : Claim7 := { stood := { row := matrixSaysUptoRow, standIns := [], harness := (true, "6518c58d7f265abd68587122ba8577672478e2b4be1e5ad0632709d1d2fb216a"), looks := true }, kinds := [], alts := [], laidByText := true, laidKinds := [.data, .data, .data, .data, .pinned], laidTests := true, laidLooks := .later }
def MatrixSaysUptoCardSaid : Prop := Claim7.holds Tryd.pinned (.plain (OpenSpec.upto matrixSaysSpec)) matrixSaysUptoCard

/-- THE SECOND FORM's CARD OF 'foliowrightlaw.CmapReads'. -/
def cmapReadsUptoCard : Claim7 := { stood := { row := cmapReadsUptoRow, standIns := [], harness := (true, "6518c58d7f265abd68587122ba8577672478e2b4be1e5ad0632709d1d2fb216a"), looks := true }, kinds := [], alts := [], laidByText := true, laidKinds := [.data, .pinned], laidTests := true, laidLooks := .later }
def CmapReadsUptoCardSaid : Prop := Claim7.holds Tryd.pinned (.plain (OpenSpec.upto cmapReadsSpec)) cmapReadsUptoCard

/-- THE SECOND FORM's CARD OF 'foliowrightlaw.CmapSays'. -/
def cmapSaysUptoCard : Claim7 := { stood := { row := cmapSaysUptoRow, standIns := [], harness := (true, "6518c58d7f265abd68587122ba8577672478e2b4be1e5ad0632709d1d2fb216a"), looks := true }, kinds := [], alts := [], laidByText := true, laidKinds := [.data, .pinned], laidTests := true, laidLooks := .later }
def CmapSaysUptoCardSaid : Prop := Claim7.holds Tryd.pinned (.plain (OpenSpec.upto cmapSaysSpec)) cmapSaysUptoCard

/-- THE SECOND FORM's CARD OF 'foliowrightlaw.ValueSays'. -/
def valueSaysUptoCard : Claim7 := { stood := { row := valueSaysUptoRow, standIns := [], harness := (true, "6518c58d7f265abd68587122ba8577672478e2b4be1e5ad0632709d1d2fb216a"), looks := true }, kinds := [], alts := [], laidByText := true, laidKinds := [.data, .data, .data, .data, .pinned], laidTests := true, laidLooks := .later }
def ValueSaysUptoCardSaid : Prop := Claim7.holds Tryd.pinned (.plain (OpenSpec.upto valueSaysSpec)) valueSaysUptoCard

/-- THE SECOND FORM's CARD OF 'foliowrighttop.TopSigns'. -/
def topSignsUptoCard : Claim7 := { stood := { row := topSignsUptoRow, standIns := [], harness := (true, "6518c58d7f265abd68587122ba8577672478e2b4be1e5ad0632709d1d2fb216a"), looks := true }, kinds := [], alts := [], laidByText := true, laidKinds := [.data, .pinned], laidTests := true, laidLooks := .later }
def TopSignsUptoCardSaid : Prop := Claim7.holds Tryd.pinned (.plain (OpenSpec.upto topSignsSpec)) topSignsUptoCard

/-- THE SECOND FORM's CARD OF 'foliowrighttop.TopFix'. -/
def topFixUptoCard : Claim7 := { stood := { row := topFixUptoRow, standIns := [], harness := (true, "6518c58d7f265abd68587122ba8577672478e2b4be1e5ad0632709d1d2fb216a"), looks := true }, kinds := [], alts := [], laidByText := true, laidKinds := [.data, .data, .data, .data, .pinned], laidTests := true, laidLooks := .later }
def TopFixUptoCardSaid : Prop := Claim7.holds Tryd.pinned (.plain (OpenSpec.upto topFixSpec)) topFixUptoCard

/-- THE SECOND FORM's CARD OF 'foliowrighttop.TopCmap'. -/
def topCmapUptoCard : Claim7 := { stood := { row := topCmapUptoRow, standIns := [], harness := (true, "6518c58d7f265abd68587122ba8577672478e2b4be1e5ad0632709d1d2fb216a"), looks := true }, kinds := [], alts := [], laidByText := true, laidKinds := [.data, .pinned], laidTests := true, laidLooks := .later }
def TopCmapUptoCardSaid : Prop := Claim7.holds Tryd.pinned (.plain (OpenSpec.upto topCmapSpec)) topCmapUptoCard
end Rows
end Go.Proofs.YtkkdhgibaimboaaDoor
