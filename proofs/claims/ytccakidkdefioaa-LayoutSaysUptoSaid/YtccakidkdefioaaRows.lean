/-
  No cell of these rows narrows 'for every input' (looked for: loops, veiled, ifaces, maps, wideKeys, modest, calm, conditions, laid).
  DERIVED. THE GIVEN ROWS OF THIS SEAT. 4 by the template 'for every input the law returns true; each argument reads behind the call as it read before'; 0 by the template 'total and deterministic' (their statements: YtccakidkdefioaaTotals.lean).
  GIVEN WITH THE SEED: the statements are not yours to turn. If you find one false, say at which input.
  Laid BY PROGRAM, IN A SANDBOX (cutbox-rows.mjs): the forced cells as the released guide's own fill.sh prints them over the translation 3e6c3ea7c3ab9b6e… (all of the seat's roots in one cut). By AI agents, Wed Nov 11 2026. No macro, syntax, notation, axiom, sorry.
-/
import Derived.Test.YtccakidkdefioaaChecked
import GoSem.Claim
import GoSem.ClaimJoined
import GoSem.ClaimMapViews
import Derived.JoinedTies
import Derived.KernelRfl
namespace Go.Proofs.Ytccakidkdefioaa
/- THE CELL 'sum', in the pinned program and in every row, IS THE sha256 OF THE DUMP (.gsa) THAT YtccakidkdefioaaProg.lean LOADS. Nothing in Lean hashes anything: it is a label: what it is worth is what the hold of that sum in a sandbox is worth. -/
noncomputable def Try.pinned : Pinned := { name := "ytccakidkdefioaa", sum := "3e6c3ea7c3ab9b6ec07a736bf3f0ef420279db1740a88a75eee66bc111738213", checked := Try.checked }
namespace Rows
def none {H : Type} : Left H := { results := [], args := [] }

/-- 'foliowrightlaw.LayoutSays': WHATEVER THE INPUT: true; the input reads as it did. -/
def layoutSaysSpec : ChangeSpec := { name := "layoutSays", fn := fun _ => fun
  | [d] => { results := [.lit (.bool true)], args := [d] }
  | _ => none }
def layoutSaysRow : OpenClaim := { program := "ytccakidkdefioaa", sum := "3e6c3ea7c3ab9b6ec07a736bf3f0ef420279db1740a88a75eee66bc111738213", func := "foliowright/foliowrightlaw.LayoutSays", spec := "layoutSays", unfollowed := true, recurses := true, apart := false }
def LayoutSaysSaid : Prop := layoutSaysRow.holds Try.pinned (OpenSpec.ofChange layoutSaysSpec)

/-- ITS FALSE NEIGHBOUR: 'it returns false'. Refute it at one input. -/
def layoutSaysWrong : ChangeSpec := { name := "layoutSays", fn := fun _ => fun
  | [d] => { results := [.lit (.bool false)], args := [d] }
  | _ => none }
def LayoutSaysWrongFalsely : Prop := layoutSaysRow.holds Try.pinned (OpenSpec.ofChange layoutSaysWrong)

/-- 'foliowrighttop.TopText': WHATEVER THE INPUT: true; the input reads as it did. -/
def topTextSpec : ChangeSpec := { name := "topText", fn := fun _ => fun
  | [d] => { results := [.lit (.bool true)], args := [d] }
  | _ => none }
def topTextRow : OpenClaim := { program := "ytccakidkdefioaa", sum := "3e6c3ea7c3ab9b6ec07a736bf3f0ef420279db1740a88a75eee66bc111738213", func := "foliowright/foliowrighttop.TopText", spec := "topText", unfollowed := true, recurses := true, apart := false }
def TopTextSaid : Prop := topTextRow.holds Try.pinned (OpenSpec.ofChange topTextSpec)

/-- ITS FALSE NEIGHBOUR: 'it returns false'. Refute it at one input. -/
def topTextWrong : ChangeSpec := { name := "topText", fn := fun _ => fun
  | [d] => { results := [.lit (.bool false)], args := [d] }
  | _ => none }
def TopTextWrongFalsely : Prop := topTextRow.holds Try.pinned (OpenSpec.ofChange topTextWrong)

/-- 'foliowrighttop.TopLines': WHATEVER THE INPUT: true; the input reads as it did. -/
def topLinesSpec : ChangeSpec := { name := "topLines", fn := fun _ => fun
  | [d] => { results := [.lit (.bool true)], args := [d] }
  | _ => none }
def topLinesRow : OpenClaim := { program := "ytccakidkdefioaa", sum := "3e6c3ea7c3ab9b6ec07a736bf3f0ef420279db1740a88a75eee66bc111738213", func := "foliowright/foliowrighttop.TopLines", spec := "topLines", unfollowed := true, recurses := true, apart := false }
def TopLinesSaid : Prop := topLinesRow.holds Try.pinned (OpenSpec.ofChange topLinesSpec)

/-- ITS FALSE NEIGHBOUR: 'it returns false'. Refute it at one input. -/
def topLinesWrong : ChangeSpec := { name := "topLines", fn := fun _ => fun
  | [d] => { results := [.lit (.bool false)], args := [d] }
  | _ => none }
def TopLinesWrongFalsely : Prop := topLinesRow.holds Try.pinned (OpenSpec.ofChange topLinesWrong)

/-- 'foliowrighttop.TopBoxes': WHATEVER THE INPUT: true; the input reads as it did. -/
def topBoxesSpec : ChangeSpec := { name := "topBoxes", fn := fun _ => fun
  | [d1, d2, d3] => { results := [.lit (.bool true)], args := [d1, d2, d3] }
  | _ => none }
def topBoxesRow : OpenClaim := { program := "ytccakidkdefioaa", sum := "3e6c3ea7c3ab9b6ec07a736bf3f0ef420279db1740a88a75eee66bc111738213", func := "foliowright/foliowrighttop.TopBoxes", spec := "topBoxes", unfollowed := true, recurses := true, apart := false }
def TopBoxesSaid : Prop := topBoxesRow.holds Try.pinned (OpenSpec.ofChange topBoxesSpec)

/-- ITS FALSE NEIGHBOUR: 'it returns false'. Refute it at one input. -/
def topBoxesWrong : ChangeSpec := { name := "topBoxes", fn := fun _ => fun
  | [d1, d2, d3] => { results := [.lit (.bool false)], args := [d1, d2, d3] }
  | _ => none }
def TopBoxesWrongFalsely : Prop := topBoxesRow.holds Try.pinned (OpenSpec.ofChange topBoxesWrong)

/- THE SECOND FORM. 'bulk': how many values and letters a reading holds, each counted each time it is reached (what is shared counts as often as it is met; a slice's spare places count too). A statement '..UptoSaid' is the law's where the arguments, and the package variables that the reading takes, are together of bulk at most 1048576: NARROWER than '..Said'. Prove '..Said' where nothing that the law and all that it calls make is longer than what came in: it says more and counts as full. Else prove '..UptoSaid'. A law counts once. -/
mutual
def uptoBulk {H : Type} : DataW H → Nat
  | .lit (.string bytes) => bytes.length + 1
  | .lit _ => 1
  | .nil => 1
  | .ptr d => uptoBulk d + 1
  | .slice elems spare => uptoBulkAll elems + uptoBulkAll spare + 1
  | .agg parts => uptoBulkAll parts + 1
  | .iface _ d => uptoBulk d + 1
  | .map entries => uptoBulkEntries entries + 1
  | .held _ => 1
def uptoBulkAll {H : Type} : List (DataW H) → Nat
  | [] => 0
  | d :: r => uptoBulk d + uptoBulkAll r
def uptoBulkEntries {H : Type} : List (Lit × DataW H) → Nat
  | [] => 0
  | x :: r => uptoBulkEntry x + uptoBulkEntries r
def uptoBulkEntry {H : Type} : Lit × DataW H → Nat
  | (.string bytes, d) => bytes.length + uptoBulk d + 1
  | (_, d) => uptoBulk d + 1
 end
def uptoSmall : (H : Type) → List (DataW H) → Bool := fun _ ds => decide (uptoBulkAll ds ≤ 1048576)
def OpenSpec.upto (s : _root_.Go.ChangeSpec) : _root_.Go.OpenSpec := { _root_.Go.OpenSpec.ofChange s with cond := some uptoSmall }

/-- 'foliowrightlaw.LayoutSays', WHERE WHAT IT READS IS OF BULK AT MOST 1048576: true; the input reads as it did. -/
def layoutSaysUptoRow : OpenClaim := { program := "ytccakidkdefioaa", sum := "3e6c3ea7c3ab9b6ec07a736bf3f0ef420279db1740a88a75eee66bc111738213", func := "foliowright/foliowrightlaw.LayoutSays", spec := "layoutSays", unfollowed := true, recurses := true, apart := false, narrowed := true }
def LayoutSaysUptoSaid : Prop := layoutSaysUptoRow.holds Try.pinned (OpenSpec.upto layoutSaysSpec)

/-- 'foliowrighttop.TopText', WHERE WHAT IT READS IS OF BULK AT MOST 1048576: true; the input reads as it did. -/
def topTextUptoRow : OpenClaim := { program := "ytccakidkdefioaa", sum := "3e6c3ea7c3ab9b6ec07a736bf3f0ef420279db1740a88a75eee66bc111738213", func := "foliowright/foliowrighttop.TopText", spec := "topText", unfollowed := true, recurses := true, apart := false, narrowed := true }
def TopTextUptoSaid : Prop := topTextUptoRow.holds Try.pinned (OpenSpec.upto topTextSpec)

/-- 'foliowrighttop.TopLines', WHERE WHAT IT READS IS OF BULK AT MOST 1048576: true; the input reads as it did. -/
def topLinesUptoRow : OpenClaim := { program := "ytccakidkdefioaa", sum := "3e6c3ea7c3ab9b6ec07a736bf3f0ef420279db1740a88a75eee66bc111738213", func := "foliowright/foliowrighttop.TopLines", spec := "topLines", unfollowed := true, recurses := true, apart := false, narrowed := true }
def TopLinesUptoSaid : Prop := topLinesUptoRow.holds Try.pinned (OpenSpec.upto topLinesSpec)

/-- 'foliowrighttop.TopBoxes', WHERE WHAT IT READS IS OF BULK AT MOST 1048576: true; the input reads as it did. -/
def topBoxesUptoRow : OpenClaim := { program := "ytccakidkdefioaa", sum := "3e6c3ea7c3ab9b6ec07a736bf3f0ef420279db1740a88a75eee66bc111738213", func := "foliowright/foliowrighttop.TopBoxes", spec := "topBoxes", unfollowed := true, recurses := true, apart := false, narrowed := true }
def TopBoxesUptoSaid : Prop := topBoxesUptoRow.holds Try.pinned (OpenSpec.upto topBoxesSpec)

end Rows
end Go.Proofs.Ytccakidkdefioaa
