import Derived.Test.YtbfljokjkcdbeaaAvF
import Derived.Test.YtbfljokjkcdbeaaProg
import Derived.Lib.LaidTab
import Derived.Lib.ItoaNum
/- What lies in the world from the first on, and stays. -/
set_option linter.unusedSimpArgs false
namespace Go.Av.Try
open Go.Proofs

theorem tab_lt {P : Program} {name : String} {k : IntKind} {zs : List Int} {w : World} (h : Lib.TabIs P w name k zs) (b : Nat) (hb : P.globalNamed name = some b) : b < w.heap.size := by
  unfold Lib.TabIs World.var? at h
  simp only [hb, Option.bind_some] at h
  cases hc : w.heap[b]? with
  | none => simp [hc] at h
  | some o => exact (Array.getElem?_eq_some_iff.1 hc).1

theorem tab_keep {P : Program} {name : String} {k : IntKind} {zs : List Int} {w w' : World} (hk : ∀ b, P.globalNamed name = some b → w'.heap[b]? = w.heap[b]?) (h : Lib.TabIs P w name k zs) : Lib.TabIs P w' name k zs := by
  unfold Lib.TabIs World.var? at h ⊢
  cases hg : P.globalNamed name with
  | none => simp [hg] at h
  | some g =>
    simp only [hg, Option.bind_some] at h ⊢
    rw [hk g hg]; exact h

/-- Some integer stands in the variable of that name. -/
def intAt (P : Program) (name : String) (w : World) : Prop := ∀ b, P.globalNamed name = some b → ∃ m : Int, w.cell? ⟨b, 0, none⟩ = some (.int .i64 m)
theorem cell_same {w w' : World} {b : Nat} (h : w'.heap[b]? = w.heap[b]?) : w'.cell? ⟨b, 0, none⟩ = w.cell? ⟨b, 0, none⟩ := by
  simp only [World.cell?, h]
theorem cell_lt {w : World} {b : Nat} {v : Value} (h : w.cell? ⟨b, 0, none⟩ = some v) : b < w.heap.size := by
  rcases Nat.lt_or_ge b w.heap.size with h' | h'
  · exact h'
  · simp [World.cell?, Array.getElem?_eq_none h'] at h

/-- The table of that name, if there is one. -/
def tabAt (P : Program) (name : String) (k : IntKind) (zs : List Int) (w : World) : Prop := ∀ b, P.globalNamed name = some b → Lib.TabIs P w name k zs

/-- The table of powers of ten lies as the program lays it; the greatest length that the library's search takes is some number. -/
instance : Inv Try.prog := ⟨fun _ w => tabAt Try.prog "internal/strconv.uint64pow10" .u64 Lib.pow10Tab w ∧ intAt Try.prog "internal/bytealg.MaxLen" w,
  fun b => Try.prog.globalNamed "internal/strconv.uint64pow10" = some b ∨ Try.prog.globalNamed "internal/bytealg.MaxLen" = some b,
  fun h b hb => hb.elim (fun hb => tab_lt (h.1 b hb) b hb) fun hb => by obtain ⟨m, hm⟩ := h.2 b hb; exact cell_lt hm,
  fun hk h => ⟨fun b hb => tab_keep (fun b hb => (hk b (.inl hb)).1) (h.1 b hb), fun b hb => by obtain ⟨m, hm⟩ := h.2 b hb; exact ⟨m, (cell_same (hk b (.inr hb)).1).trans hm⟩⟩⟩

end Go.Av.Try
