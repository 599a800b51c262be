/-
  NARROWER THAN 'FOR EVERY INPUT', by the rows' own cells (each row's printed sentence says how): GlyphSays: maps, laid · CmapReads: laid · CmapSays: laid · TopSigns: maps, laid · TopCmap: laid.
  DERIVED. THE GIVEN ROWS OF THIS SEAT. 5 by the template 'for every input the law returns true; each argument reads behind the call as it read before'; 0 by the template 'total and deterministic' (their statements: YtjmhecojjcjcaaaDoorTotals.lean).
  GIVEN WITH THE SEED: the statements are not yours to turn. If you find one false, say at which input.
  Laid BY PROGRAM, IN A SANDBOX (cutbox-rows.mjs): the forced cells as the released guide's own fill.sh prints them over the translation 484518291e8d76e2… (all of the seat's roots in one cut). By AI agents, Wed Nov 11 2026. No macro, syntax, notation, axiom, sorry.
-/
import Derived.Test.YtjmhecojjcjcaaaDoorChecked
import GoSem.PinnedTables
import GoSem.Claim
import GoSem.ClaimJoined
import GoSem.ClaimMapViews
import Derived.JoinedTies
import Derived.KernelRfl
namespace Go.Proofs.YtjmhecojjcjcaaaDoor
/- THE CELL 'sum', in the pinned program and in every row, IS THE sha256 OF THE DUMP (.gsa) THAT YtjmhecojjcjcaaaDoorProg.lean LOADS. Nothing in Lean hashes anything: it is a label: what it is worth is what the hold of that sum in a sandbox is worth. -/
noncomputable def Tryd.pinned : Pinned := { name := "ytjmhecojjcjcaaadoor", sum := "484518291e8d76e2ecacf349cc2a49e491cdde2f805ebeac811e17be4429ea35", checked := Tryd.checked }
namespace Rows
def none {H : Type} : Left H := { results := [], args := [] }

/- WHAT THE LISTED PACKAGE-LEVEL VARIABLES READ AS WHEN THE CALL BEGINS. Each datum BY PROGRAM (the guide's laid-datum.mjs) off the statement by which the dump's own 'gosem.cut.vars' lays the variable. In a bare row this is a premise. The card (YtjmhecojjcjcaaaDoorCards.lean) ties it to the program's text. -/
def laid_unicode_utf8_acceptRanges {H : Type} : DataW H := .agg [.agg [.lit (.int .u8 128), .lit (.int .u8 191)], .agg [.lit (.int .u8 160), .lit (.int .u8 191)], .agg [.lit (.int .u8 128), .lit (.int .u8 159)], .agg [.lit (.int .u8 144), .lit (.int .u8 191)], .agg [.lit (.int .u8 128), .lit (.int .u8 143)], .agg [.lit (.int .u8 0), .lit (.int .u8 0)], .agg [.lit (.int .u8 0), .lit (.int .u8 0)], .agg [.lit (.int .u8 0), .lit (.int .u8 0)], .agg [.lit (.int .u8 0), .lit (.int .u8 0)], .agg [.lit (.int .u8 0), .lit (.int .u8 0)], .agg [.lit (.int .u8 0), .lit (.int .u8 0)], .agg [.lit (.int .u8 0), .lit (.int .u8 0)], .agg [.lit (.int .u8 0), .lit (.int .u8 0)], .agg [.lit (.int .u8 0), .lit (.int .u8 0)], .agg [.lit (.int .u8 0), .lit (.int .u8 0)], .agg [.lit (.int .u8 0), .lit (.int .u8 0)]]
/-- One of Go's own tables, pinned by name: the form's constant. -/
def laid_unicode_utf8_first : DataW Unit := Go.Pinned.utf8First

/-- 'foliowrightlaw.GlyphSays': WHATEVER THE INPUT: true; the input reads as it did. -/
def glyphSaysSpec : ChangeSpec := { name := "glyphSays", fn := fun _ => fun
  | [d1, d2, d3] => { results := [.lit (.bool true)], args := [d1, d2, d3] }
  | _ => none }
def glyphSaysRow : OpenClaim := { program := "ytjmhecojjcjcaaadoor", sum := "484518291e8d76e2ecacf349cc2a49e491cdde2f805ebeac811e17be4429ea35", func := "foliowright/foliowrightlaw.GlyphSays", spec := "glyphSays", named := ["unicode/utf8.first", "unicode/utf8.acceptRanges"], maps := true, apart := false, laid := [("unicode/utf8.acceptRanges", laid_unicode_utf8_acceptRanges), ("unicode/utf8.first", laid_unicode_utf8_first)] }
def GlyphSaysSaid : Prop := glyphSaysRow.holds Tryd.pinned (OpenSpec.ofChange glyphSaysSpec)

/-- ITS FALSE NEIGHBOUR: 'it returns false'. Refute it at one input. -/
def glyphSaysWrong : ChangeSpec := { name := "glyphSays", fn := fun _ => fun
  | [d1, d2, d3] => { results := [.lit (.bool false)], args := [d1, d2, d3] }
  | _ => none }
def GlyphSaysWrongFalsely : Prop := glyphSaysRow.holds Tryd.pinned (OpenSpec.ofChange glyphSaysWrong)

/-- 'foliowrightlaw.CmapReads': WHATEVER THE INPUT: true; the input reads as it did. -/
def cmapReadsSpec : ChangeSpec := { name := "cmapReads", fn := fun _ => fun
  | [d] => { results := [.lit (.bool true)], args := [d] }
  | _ => none }
def cmapReadsRow : OpenClaim := { program := "ytjmhecojjcjcaaadoor", sum := "484518291e8d76e2ecacf349cc2a49e491cdde2f805ebeac811e17be4429ea35", func := "foliowright/foliowrightlaw.CmapReads", spec := "cmapReads", inPlace := ["internal/bytealg.IndexByteString", "internal/bytealg.IndexString", "internal/abi.NoEscape", "slices.overlaps[foliowright/api.Span]"], unfollowed := true, recurses := true, named := ["internal/bytealg.MaxLen", "unicode/utf8.first", "unicode/utf8.acceptRanges"], apart := false, laid := [("unicode/utf8.acceptRanges", laid_unicode_utf8_acceptRanges), ("unicode/utf8.first", laid_unicode_utf8_first)] }
def CmapReadsSaid : Prop := cmapReadsRow.holds Tryd.pinned (OpenSpec.ofChange cmapReadsSpec)

/-- ITS FALSE NEIGHBOUR: 'it returns false'. Refute it at one input. -/
def cmapReadsWrong : ChangeSpec := { name := "cmapReads", fn := fun _ => fun
  | [d] => { results := [.lit (.bool false)], args := [d] }
  | _ => none }
def CmapReadsWrongFalsely : Prop := cmapReadsRow.holds Tryd.pinned (OpenSpec.ofChange cmapReadsWrong)

/-- 'foliowrightlaw.CmapSays': WHATEVER THE INPUT: true; the input reads as it did. -/
def cmapSaysSpec : ChangeSpec := { name := "cmapSays", fn := fun _ => fun
  | [d1, d2, d3] => { results := [.lit (.bool true)], args := [d1, d2, d3] }
  | _ => none }
def cmapSaysRow : OpenClaim := { program := "ytjmhecojjcjcaaadoor", sum := "484518291e8d76e2ecacf349cc2a49e491cdde2f805ebeac811e17be4429ea35", func := "foliowright/foliowrightlaw.CmapSays", spec := "cmapSays", inPlace := ["internal/bytealg.IndexByteString", "internal/bytealg.IndexString", "internal/abi.NoEscape", "slices.overlaps[foliowright/api.Span]"], unfollowed := true, recurses := true, named := ["internal/bytealg.MaxLen", "unicode/utf8.first", "unicode/utf8.acceptRanges"], apart := false, laid := [("unicode/utf8.acceptRanges", laid_unicode_utf8_acceptRanges), ("unicode/utf8.first", laid_unicode_utf8_first)] }
def CmapSaysSaid : Prop := cmapSaysRow.holds Tryd.pinned (OpenSpec.ofChange cmapSaysSpec)

/-- ITS FALSE NEIGHBOUR: 'it returns false'. Refute it at one input. -/
def cmapSaysWrong : ChangeSpec := { name := "cmapSays", fn := fun _ => fun
  | [d1, d2, d3] => { results := [.lit (.bool false)], args := [d1, d2, d3] }
  | _ => none }
def CmapSaysWrongFalsely : Prop := cmapSaysRow.holds Tryd.pinned (OpenSpec.ofChange cmapSaysWrong)

/-- 'foliowrighttop.TopSigns': WHATEVER THE INPUT: true; the input reads as it did. -/
def topSignsSpec : ChangeSpec := { name := "topSigns", fn := fun _ => fun
  | [d1, d2, d3] => { results := [.lit (.bool true)], args := [d1, d2, d3] }
  | _ => none }
def topSignsRow : OpenClaim := { program := "ytjmhecojjcjcaaadoor", sum := "484518291e8d76e2ecacf349cc2a49e491cdde2f805ebeac811e17be4429ea35", func := "foliowright/foliowrighttop.TopSigns", spec := "topSigns", named := ["unicode/utf8.first", "unicode/utf8.acceptRanges"], maps := true, apart := false, laid := [("unicode/utf8.acceptRanges", laid_unicode_utf8_acceptRanges), ("unicode/utf8.first", laid_unicode_utf8_first)] }
def TopSignsSaid : Prop := topSignsRow.holds Tryd.pinned (OpenSpec.ofChange topSignsSpec)

/-- ITS FALSE NEIGHBOUR: 'it returns false'. Refute it at one input. -/
def topSignsWrong : ChangeSpec := { name := "topSigns", fn := fun _ => fun
  | [d1, d2, d3] => { results := [.lit (.bool false)], args := [d1, d2, d3] }
  | _ => none }
def TopSignsWrongFalsely : Prop := topSignsRow.holds Tryd.pinned (OpenSpec.ofChange topSignsWrong)

/-- 'foliowrighttop.TopCmap': WHATEVER THE INPUT: true; the input reads as it did. -/
def topCmapSpec : ChangeSpec := { name := "topCmap", fn := fun _ => fun
  | [d1, d2, d3] => { results := [.lit (.bool true)], args := [d1, d2, d3] }
  | _ => none }
def topCmapRow : OpenClaim := { program := "ytjmhecojjcjcaaadoor", sum := "484518291e8d76e2ecacf349cc2a49e491cdde2f805ebeac811e17be4429ea35", func := "foliowright/foliowrighttop.TopCmap", spec := "topCmap", inPlace := ["internal/abi.NoEscape", "internal/bytealg.IndexByteString", "internal/bytealg.IndexString", "slices.overlaps[foliowright/api.Span]"], unfollowed := true, recurses := true, named := ["unicode/utf8.first", "unicode/utf8.acceptRanges", "internal/bytealg.MaxLen"], apart := false, laid := [("unicode/utf8.acceptRanges", laid_unicode_utf8_acceptRanges), ("unicode/utf8.first", laid_unicode_utf8_first)] }
def TopCmapSaid : Prop := topCmapRow.holds Tryd.pinned (OpenSpec.ofChange topCmapSpec)

/-- ITS FALSE NEIGHBOUR: 'it returns false'. Refute it at one input. -/
def topCmapWrong : ChangeSpec := { name := "topCmap", fn := fun _ => fun
  | [d1, d2, d3] => { results := [.lit (.bool false)], args := [d1, d2, d3] }
  | _ => none }
def TopCmapWrongFalsely : Prop := topCmapRow.holds Tryd.pinned (OpenSpec.ofChange topCmapWrong)

/- THE SECOND FORM. 'bulk': how many values and letters a reading holds, each counted each time it is reached (what is shared counts as often as it is met; a slice's spare places count too). A statement '..UptoSaid' is the law's where the arguments, and the package variables that the reading takes, are together of bulk at most 1048576: NARROWER than '..Said'. Prove '..Said' where nothing that the law and all that it calls make is longer than what came in: it says more and counts as full. Else prove '..UptoSaid'. A law counts once. -/
mutual
def uptoBulk {H : Type} : DataW H → Nat
  | .lit (.string bytes) => bytes.length + 1
  | .lit _ => 1
  | .nil => 1
  | .ptr d => uptoBulk d + 1
  | .slice elems spare => uptoBulkAll elems + uptoBulkAll spare + 1
  | .agg parts => uptoBulkAll parts + 1
  | .iface _ d => uptoBulk d + 1
  | .map entries => uptoBulkEntries entries + 1
  | .held _ => 1
def uptoBulkAll {H : Type} : List (DataW H) → Nat
  | [] => 0
  | d :: r => uptoBulk d + uptoBulkAll r
def uptoBulkEntries {H : Type} : List (Lit × DataW H) → Nat
  | [] => 0
  | x :: r => uptoBulkEntry x + uptoBulkEntries r
def uptoBulkEntry {H : Type} : Lit × DataW H → Nat
  | (.string bytes, d) => bytes.length + uptoBulk d + 1
  | (_, d) => uptoBulk d + 1
 end
def uptoSmall : (H : Type) → List (DataW H) → Bool := fun _ ds => decide (uptoBulkAll ds ≤ 1048576)
def OpenSpec.upto (s : _root_.Go.ChangeSpec) : _root_.Go.OpenSpec := { _root_.Go.OpenSpec.ofChange s with cond := some uptoSmall }

/-- 'foliowrightlaw.GlyphSays', WHERE WHAT IT READS IS OF BULK AT MOST 1048576: true; the input reads as it did. -/
def glyphSaysUptoRow : OpenClaim := { program := "ytjmhecojjcjcaaadoor", sum := "484518291e8d76e2ecacf349cc2a49e491cdde2f805ebeac811e17be4429ea35", func := "foliowright/foliowrightlaw.GlyphSays", spec := "glyphSays", named := ["unicode/utf8.first", "unicode/utf8.acceptRanges"], maps := true, apart := false, laid := [("unicode/utf8.acceptRanges", laid_unicode_utf8_acceptRanges), ("unicode/utf8.first", laid_unicode_utf8_first)], narrowed := true }
def GlyphSaysUptoSaid : Prop := glyphSaysUptoRow.holds Tryd.pinned (OpenSpec.upto glyphSaysSpec)

/-- 'foliowrightlaw.CmapReads', WHERE WHAT IT READS IS OF BULK AT MOST 1048576: true; the input reads as it did. -/
def cmapReadsUptoRow : OpenClaim := { program := "ytjmhecojjcjcaaadoor", sum := "484518291e8d76e2ecacf349cc2a49e491cdde2f805ebeac811e17be4429ea35", func := "foliowright/foliowrightlaw.CmapReads", spec := "cmapReads", inPlace := ["internal/bytealg.IndexByteString", "internal/bytealg.IndexString", "internal/abi.NoEscape", "slices.overlaps[foliowright/api.Span]"], unfollowed := true, recurses := true, named := ["internal/bytealg.MaxLen", "unicode/utf8.first", "unicode/utf8.acceptRanges"], apart := false, laid := [("unicode/utf8.acceptRanges", laid_unicode_utf8_acceptRanges), ("unicode/utf8.first", laid_unicode_utf8_first)], narrowed := true }
def CmapReadsUptoSaid : Prop := cmapReadsUptoRow.holds Tryd.pinned (OpenSpec.upto cmapReadsSpec)

/-- 'foliowrightlaw.CmapSays', WHERE WHAT IT READS IS OF BULK AT MOST 1048576: true; the input reads as it did. -/
def cmapSaysUptoRow : OpenClaim := { program := "ytjmhecojjcjcaaadoor", sum := "484518291e8d76e2ecacf349cc2a49e491cdde2f805ebeac811e17be4429ea35", func := "foliowright/foliowrightlaw.CmapSays", spec := "cmapSays", inPlace := ["internal/bytealg.IndexByteString", "internal/bytealg.IndexString", "internal/abi.NoEscape", "slices.overlaps[foliowright/api.Span]"], unfollowed := true, recurses := true, named := ["internal/bytealg.MaxLen", "unicode/utf8.first", "unicode/utf8.acceptRanges"], apart := false, laid := [("unicode/utf8.acceptRanges", laid_unicode_utf8_acceptRanges), ("unicode/utf8.first", laid_unicode_utf8_first)], narrowed := true }
def CmapSaysUptoSaid : Prop := cmapSaysUptoRow.holds Tryd.pinned (OpenSpec.upto cmapSaysSpec)

/-- 'foliowrighttop.TopSigns', WHERE WHAT IT READS IS OF BULK AT MOST 1048576: true; the input reads as it did. -/
def topSignsUptoRow : OpenClaim := { program := "ytjmhecojjcjcaaadoor", sum := "484518291e8d76e2ecacf349cc2a49e491cdde2f805ebeac811e17be4429ea35", func := "foliowright/foliowrighttop.TopSigns", spec := "topSigns", named := ["unicode/utf8.first", "unicode/utf8.acceptRanges"], maps := true, apart := false, laid := [("unicode/utf8.acceptRanges", laid_unicode_utf8_acceptRanges), ("unicode/utf8.first", laid_unicode_utf8_first)], narrowed := true }
def TopSignsUptoSaid : Prop := topSignsUptoRow.holds Tryd.pinned (OpenSpec.upto topSignsSpec)

/-- 'foliowrighttop.TopCmap', WHERE WHAT IT READS IS OF BULK AT MOST 1048576: true; the input reads as it did. -/
def topCmapUptoRow : OpenClaim := { program := "ytjmhecojjcjcaaadoor", sum := "484518291e8d76e2ecacf349cc2a49e491cdde2f805ebeac811e17be4429ea35", func := "foliowright/foliowrighttop.TopCmap", spec := "topCmap", inPlace := ["internal/abi.NoEscape", "internal/bytealg.IndexByteString", "internal/bytealg.IndexString", "slices.overlaps[foliowright/api.Span]"], unfollowed := true, recurses := true, named := ["unicode/utf8.first", "unicode/utf8.acceptRanges", "internal/bytealg.MaxLen"], apart := false, laid := [("unicode/utf8.acceptRanges", laid_unicode_utf8_acceptRanges), ("unicode/utf8.first", laid_unicode_utf8_first)], narrowed := true }
def TopCmapUptoSaid : Prop := topCmapUptoRow.holds Tryd.pinned (OpenSpec.upto topCmapSpec)

end Rows
end Go.Proofs.YtjmhecojjcjcaaaDoor
