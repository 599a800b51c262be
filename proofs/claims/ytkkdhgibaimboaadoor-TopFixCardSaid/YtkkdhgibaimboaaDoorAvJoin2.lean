/- What a statement of a law asks, out of a contract. -/
import Derived.Test.YtkkdhgibaimboaaDoorAvJoin
namespace Go.Av
open Go.RowKit

theorem OfT.string {P : Program} {k : Nat} {t : TypeId} {ds : List D} (hu : P.underlying t = some .string) (h : OfT P k t ds) : ∃ s, ds = [.str s] ∧ s.length ≤ maxLen := by
  cases k with
  | zero => exact h.elim
  | succ k => unfold OfT at h; rw [hu] at h; exact h

theorem OfT.int {P : Program} {k : Nat} {t : TypeId} {i : IntKind} {ds : List D} (hu : P.underlying t = some (.int i)) (h : OfT P k t ds) : ∃ n, ds = [.int i n] ∧ (Lit.int i n).wf = true := by
  cases k with
  | zero => exact h.elim
  | succ k => unfold OfT at h; rw [hu] at h; exact h

theorem OfT.bool {P : Program} {k : Nat} {t : TypeId} {ds : List D} (hu : P.underlying t = some .bool) (h : OfT P k t ds) : ∃ b, ds = [.bool b] := by
  cases k with
  | zero => exact h.elim
  | succ k => unfold OfT at h; rw [hu] at h; exact h

theorem OfT.slice {P : Program} {k : Nat} {t e : TypeId} {ds : List D} (hu : P.underlying t = some (.slice e)) (h : OfT P k t ds) : ∃ l m, k = m + 1 ∧ ds = [.list l] ∧ l.length ≤ maxLen ∧ ∀ x ∈ l, ∃ cs, x = mkD cs ∧ OfT P m e cs := by
  cases k with
  | zero => exact h.elim
  | succ k => unfold OfT at h; rw [hu] at h; obtain ⟨l, h1, h2, h3⟩ := h; exact ⟨l, k, rfl, h1, h2, h3⟩

theorem all_mapped {α : Type} {g : α → D} {l : List D} (h : ∀ x ∈ l, ∃ y, x = g y) : ∃ ys : List α, l = ys.map g := by
  induction l with
  | nil => exact ⟨[], rfl⟩
  | cons x r ih =>
    obtain ⟨ys, hy⟩ := ih fun z hz => h z (by simp [hz])
    obtain ⟨y, hx⟩ := h x (by simp)
    exact ⟨y :: ys, by rw [hy, hx]; rfl⟩

theorem OfT.strings {P : Program} {k : Nat} {t e : TypeId} {ds : List D} (hu : P.underlying t = some (.slice e)) (he : P.underlying e = some .string) (h : OfT P k t ds) : ∃ l : List (List UInt8), ds = [.list (l.map D.str)] ∧ l.length ≤ maxLen := by
  obtain ⟨l, m, _, h1, h2, h3⟩ := h.slice hu
  obtain ⟨ys, rfl⟩ := all_mapped (g := D.str) (l := l) fun x hx => by
    obtain ⟨cs, h4, h5⟩ := h3 x hx
    obtain ⟨s, h6, _⟩ := h5.string he
    exact ⟨s, by rw [h4, h6]; rfl⟩
  exact ⟨ys, h1, by simpa using h2⟩

section
variable {H : Type} {enc : TypeId × Value → H} {P : Program} {w : World} {base : Nat} {spare : Nat → Bool} {held : Bool}

/-- An argument of one cell. -/
theorem read1 {ts : List TypeId} (hts : okTs P ts = true) {t : TypeId} (ht : t ∈ ts) {v : Value} (hv : v.cells = #[v]) {d : DataW H} {p : List MemPlace} (h : DataW.Trod enc P w base spare held t v d p) :
    ∃ k x, OfT P k t [x] ∧ RD (front w) w x v := by
  obtain ⟨fuel, hf⟩ := h
  obtain ⟨ds, h1, h2, h3, h4, h5⟩ := readT hts fuel t _ _ ht hf
  rw [hv] at h2 h5
  match ds, h2 with
  | [x], _ => exact ⟨fuel, x, h1, h5 0 x v rfl rfl⟩

/-- An argument of a struct. -/
theorem readS {ts : List TypeId} (hts : okTs P ts = true) {t : TypeId} (ht : t ∈ ts) {vs : Array Value} {d : DataW H} {p : List MemPlace} (h : DataW.Trod enc P w base spare held t (.agg vs) d p) :
    ∃ k ds, OfT P k t ds ∧ RD (front w) w (.agg ds) (.agg vs) := by
  obtain ⟨fuel, hf⟩ := h
  obtain ⟨ds, h1, h2, h3, h4, h5⟩ := readT hts fuel t _ _ ht hf
  have hc : (Value.agg vs).cells = vs := rfl
  rw [hc] at h2 h5
  refine ⟨fuel, ds, h1, .agg ds vs (by simpa using h2.symm) h4 fun i e he => h5 i e _ he ?_⟩
  have hi : i < vs.size := by have := (List.getElem?_eq_some_iff.1 he).1; simp at h2; omega
  simp [Array.getD, hi]

theorem Fr.below {f f' : Nat → Nat} {w w' : World} (h : Fr f w f' w') : Below w.heap.size w w' := ⟨h.os, h.tape, h.output, h.size, fun k hk => (h.block k hk).1⟩

/-- A contract that says 'true', as a statement of a law wants it. -/
theorem PCall.law [Inv P] {fn : FuncId} {xs : List D} (h : PCall P fn xs (fun r => r = .one (.bool true))) (hI : Inv.inv P (front w) w) {vs : Array Value} (hl : vs.size = xs.length) (hr : ∀ (i : Nat) (y : D), xs[i]? = some y → RD (front w) w y (vs.getD i undef)) :
    Calls P fn vs w fun e w' => e = .returned (.bool true) ∧ Below w.heap.size w w' :=
  (h (front w) w vs hI (fun _ hb => front_top hb) hl hr).mono fun e w' ⟨r, v, f', hp, he, hr, hf⟩ => by
    subst hp
    cases hr
    exact ⟨he, hf.below⟩
end

end Go.Av
