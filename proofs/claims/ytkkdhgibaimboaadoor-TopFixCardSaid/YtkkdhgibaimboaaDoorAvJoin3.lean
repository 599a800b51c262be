/- Structs of integers as arguments; tables that start-up lays. -/
import Derived.Test.YtkkdhgibaimboaaDoorAvJoin2
import Derived.Lay
import Derived.Lib.LaidU8
import Derived.Lib.LaidTab
import Derived.LaidMore
namespace Go.Av
open Go.RowKit

/-- All fields are integers of 64 bits, one behind the other. -/
def intFs (P : Program) (fs : Array Field) : Bool := (List.range fs.size).all fun i => match fs[i]? with
  | some f => f.offset == i && ((match P.underlying f.type with | some (.int .i64) => true | _ => false) && P.cellsOf f.type == 1)
  | none => false

theorem OfT.ints {P : Program} {k : Nat} {t : TypeId} {ds : List D} {fs : Array Field} (hu : P.underlying t = some (.struct fs)) (hf : intFs P fs = true) (hc : P.cellsOf t = fs.size) (h : OfT P k t ds) :
    ∃ ns : List Int, ds = ns.map (D.int .i64) ∧ ns.length = fs.size ∧ ∀ n ∈ ns, (Lit.int .i64 n).wf = true := by
  cases k with
  | zero => exact h.elim
  | succ k =>
    unfold OfT at h
    rw [hu] at h
    obtain ⟨h1, h2⟩ := h
    have each : ∀ i, i < fs.size → ∃ n, ds[i]? = some (.int .i64 n) ∧ (Lit.int .i64 n).wf = true := by
      intro i hi
      have hfi := List.all_eq_true.1 hf i (by simpa using hi)
      rw [Array.getElem?_eq_getElem hi] at hfi
      simp only [Bool.and_eq_true, beq_iff_eq] at hfi
      obtain ⟨e1, e2, e3⟩ := hfi
      have hint : P.underlying (fs[i]).type = some (.int .i64) := by
        split at e2
        · rename_i hh; exact hh
        · cases e2
      have ho := h2 i fs[i] (Array.getElem?_eq_getElem hi)
      rw [e1, e3] at ho
      obtain ⟨n, q1, q2⟩ := ho.int hint
      refine ⟨n, ?_, q2⟩
      have := congrArg (fun l => l[0]?) q1
      simpa [List.getElem?_take, List.getElem?_drop] using this
    obtain ⟨ns, l1, l2⟩ := choose_list fs.size each
    refine ⟨ns, ?_, l1, fun n hn => ?_⟩
    · apply List.ext_getElem?
      intro i
      by_cases hi : i < fs.size
      · have hg := List.getElem?_eq_getElem (l := ns) (i := i) (by omega)
        rw [(l2 i _ hg).1, List.getElem?_map, hg]; rfl
      · rw [List.getElem?_eq_none (by omega), List.getElem?_eq_none (by simp; omega)]
    · obtain ⟨i, hi⟩ := List.getElem?_of_mem hn
      exact (l2 i n hi).2

theorem wf_i64 {n : Int} (h : (Lit.int .i64 n).wf = true) : -9223372036854775808 ≤ n ∧ n ≤ 9223372036854775807 := Go.bounds_i64 h

/-- A table of integers that the row lists. -/
theorem tab_of {P : Program} {W : World} {l : List (String × DataW Unit)} {name : String} {k : IntKind} {zs : List Int} {g : Nat} {t e : TypeId} {n : Nat}
    (hg : P.globalNamed name = some g) (hty : (P.globals[g]?).map (·.type) = some t) (ht : P.underlying t = some (.array n e)) (he : P.underlying e = some (.int k)) (hce : P.cellsOf e = 1) (hct : P.cellsOf t = n)
    (hm : (name, Lib.tabData k zs) ∈ l) (h : laidMet P l W) : Lib.TabIs P W name k zs := by
  obtain ⟨g', t', cs, fuel, p, h1, h2, h3, h4⟩ := Lib.laidMet.reads h hm
  obtain rfl := Option.some.inj (hg.symm.trans h1)
  obtain rfl := Option.some.inj (hty.symm.trans h2)
  have := Lib.cells_of_tab ht he hce hct h4
  unfold Lib.TabIs
  rw [h3]
  congr 1
  apply Array.toList_inj.1
  simpa using this

end Go.Av
