/-
  DERIVED. GIVEN WITH THE SEED: THE CARDS: each row of YtjmhecojjcjcaaaDoorRows.lean that lists a variable, with what it lists TIED to the program's text (the seventh form; the later family's looks); each row that meets fmt, with fmt's text TOLD by the authors' own Lean function (tested against real Go, not proved from fmt's source: count such statements apart). THE CARD IS WHAT COUNTS. Prove the row's statement (the work); the ties are given (YtjmhecojjcjcaaaDoorTie.lean); close each card by the builder's one call (the guide's Derived/Test/ToyasCard.lean, 'card_holds'). Laid BY PROGRAM, IN A SANDBOX (cutbox-door.mjs). By AI agents, Wed Nov 11 2026. No macro, syntax, notation, axiom, sorry.
-/
import Derived.Test.YtjmhecojjcjcaaaDoorRows
import GoSem.ClaimSeven
namespace Go.Proofs.YtjmhecojjcjcaaaDoor
namespace Rows

/-- THE TIED CARD OF 'foliowrightlaw.GlyphSays'. -/
def glyphSaysCard : Claim7 := { stood := { row := glyphSaysRow, standIns := [], harness := (true, "c2ac7385be2d70e0f2f74701d20ea129277c8a1ee8bf4cc8c9ee4bc62ffe879f"), looks := true }, kinds := [], alts := [], laidByText := true, laidKinds := [.data, .pinned], laidTests := true, laidLooks := .later }
def GlyphSaysCardSaid : Prop := Claim7.holds Tryd.pinned (.plain (OpenSpec.ofChange glyphSaysSpec)) glyphSaysCard

/-- THE TIED CARD OF 'foliowrightlaw.CmapReads'. -/
def cmapReadsCard : Claim7 := { stood := { row := cmapReadsRow, standIns := [], harness := (true, "c2ac7385be2d70e0f2f74701d20ea129277c8a1ee8bf4cc8c9ee4bc62ffe879f"), looks := true }, kinds := [], alts := [], laidByText := true, laidKinds := [.data, .pinned], laidTests := true, laidLooks := .later }
def CmapReadsCardSaid : Prop := Claim7.holds Tryd.pinned (.plain (OpenSpec.ofChange cmapReadsSpec)) cmapReadsCard

/-- THE TIED CARD OF 'foliowrightlaw.CmapSays'. -/
def cmapSaysCard : Claim7 := { stood := { row := cmapSaysRow, standIns := [], harness := (true, "c2ac7385be2d70e0f2f74701d20ea129277c8a1ee8bf4cc8c9ee4bc62ffe879f"), looks := true }, kinds := [], alts := [], laidByText := true, laidKinds := [.data, .pinned], laidTests := true, laidLooks := .later }
def CmapSaysCardSaid : Prop := Claim7.holds Tryd.pinned (.plain (OpenSpec.ofChange cmapSaysSpec)) cmapSaysCard

/-- THE TIED CARD OF 'foliowrighttop.TopSigns'. -/
def topSignsCard : Claim7 := { stood := { row := topSignsRow, standIns := [], harness := (true, "c2ac7385be2d70e0f2f74701d20ea129277c8a1ee8bf4cc8c9ee4bc62ffe879f"), looks := true }, kinds := [], alts := [], laidByText := true, laidKinds := [.data, .pinned], laidTests := true, laidLooks := .later }
def TopSignsCardSaid : Prop := Claim7.holds Tryd.pinned (.plain (OpenSpec.ofChange topSignsSpec)) topSignsCard

/-- THE TIED CARD OF 'foliowrighttop.TopCmap'. -/
def topCmapCard : Claim7 := { stood := { row := topCmapRow, standIns := [], harness := (true, "c2ac7385be2d70e0f2f74701d20ea129277c8a1ee8bf4cc8c9ee4bc62ffe879f"), looks := true }, kinds := [], alts := [], laidByText := true, laidKinds := [.data, .pinned], laidTests := true, laidLooks := .later }
def TopCmapCardSaid : Prop := Claim7.holds Tryd.pinned (.plain (OpenSpec.ofChange topCmapSpec)) topCmapCard

/-- THE SECOND FORM's CARD OF 'foliowrightlaw.GlyphSays'. -/
def glyphSaysUptoCard : Claim7 := { stood := { row := glyphSaysUptoRow, standIns := [], harness := (true, "c2ac7385be2d70e0f2f74701d20ea129277c8a1ee8bf4cc8c9ee4bc62ffe879f"), looks := true }, kinds := [], alts := [], laidByText := true, laidKinds := [.data, .pinned], laidTests := true, laidLooks := .later }
def GlyphSaysUptoCardSaid : Prop := Claim7.holds Tryd.pinned (.plain (OpenSpec.upto glyphSaysSpec)) glyphSaysUptoCard

/-- THE SECOND FORM's CARD OF 'foliowrightlaw.CmapReads'. -/
def cmapReadsUptoCard : Claim7 := { stood := { row := cmapReadsUptoRow, standIns := [], harness := (true, "c2ac7385be2d70e0f2f74701d20ea129277c8a1ee8bf4cc8c9ee4bc62ffe879f"), looks := true }, kinds := [], alts := [], laidByText := true, laidKinds := [.data, .pinned], laidTests := true, laidLooks := .later }
def CmapReadsUptoCardSaid : Prop := Claim7.holds Tryd.pinned (.plain (OpenSpec.upto cmapReadsSpec)) cmapReadsUptoCard

/-- THE SECOND FORM's CARD OF 'foliowrightlaw.CmapSays'. -/
def cmapSaysUptoCard : Claim7 := { stood := { row := cmapSaysUptoRow, standIns := [], harness := (true, "c2ac7385be2d70e0f2f74701d20ea129277c8a1ee8bf4cc8c9ee4bc62ffe879f"), looks := true }, kinds := [], alts := [], laidByText := true, laidKinds := [.data, .pinned], laidTests := true, laidLooks := .later }
def CmapSaysUptoCardSaid : Prop := Claim7.holds Tryd.pinned (.plain (OpenSpec.upto cmapSaysSpec)) cmapSaysUptoCard

/-- THE SECOND FORM's CARD OF 'foliowrighttop.TopSigns'. -/
def topSignsUptoCard : Claim7 := { stood := { row := topSignsUptoRow, standIns := [], harness := (true, "c2ac7385be2d70e0f2f74701d20ea129277c8a1ee8bf4cc8c9ee4bc62ffe879f"), looks := true }, kinds := [], alts := [], laidByText := true, laidKinds := [.data, .pinned], laidTests := true, laidLooks := .later }
def TopSignsUptoCardSaid : Prop := Claim7.holds Tryd.pinned (.plain (OpenSpec.upto topSignsSpec)) topSignsUptoCard

/-- THE SECOND FORM's CARD OF 'foliowrighttop.TopCmap'. -/
def topCmapUptoCard : Claim7 := { stood := { row := topCmapUptoRow, standIns := [], harness := (true, "c2ac7385be2d70e0f2f74701d20ea129277c8a1ee8bf4cc8c9ee4bc62ffe879f"), looks := true }, kinds := [], alts := [], laidByText := true, laidKinds := [.data, .pinned], laidTests := true, laidLooks := .later }
def TopCmapUptoCardSaid : Prop := Claim7.holds Tryd.pinned (.plain (OpenSpec.upto topCmapSpec)) topCmapUptoCard
end Rows
end Go.Proofs.YtjmhecojjcjcaaaDoor
