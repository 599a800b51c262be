import Derived.Test.YtbfljokjkcdbeaaPListR
/- The document's dictionaries, read. -/
set_option linter.unusedSimpArgs false
namespace Go.Av.Try
open Go.Proofs

/-- A dictionary that grows in a variable: nothing at first. -/
def dobj : List Fld → AObj
  | [] => .cells [.d (.int .i64 6), .d (.int .i64 0), .d (.str []), .ns, .ns]
  | x :: l => .cells [.d (.int .i64 6), .d (.int .i64 0), .d (.str []), .d (.list []), .d (.list (fldsD (x :: l)))]
theorem dobj_cases (l : List Fld) : (dobj l = .cells [.d (.int .i64 6), .d (.int .i64 0), .d (.str []), .ns, .ns] ∧ l = []) ∨ dobj l = .cells [.d (.int .i64 6), .d (.int .i64 0), .d (.str []), .d (.list []), .d (.list (fldsD l))] := by
  cases l with
  | nil => exact .inl ⟨rfl, rfl⟩
  | cons x l => exact .inr rfl
theorem dobj_ne {l : List Fld} (h : l ≠ []) : dobj l = .cells [.d (.int .i64 6), .d (.int .i64 0), .d (.str []), .d (.list []), .d (.list (fldsD l))] := by
  cases l with
  | nil => exact absurd rfl h
  | cons x l => rfl
theorem setF_ne (nm : List UInt8) (x : Val) (l : List Fld) (h : ∀ z ∈ l, z.name ≠ nm) : setF nm x l ≠ [] := fun e => by
  have := (setF_pt (nm := nm) (x := x) h).2
  rw [e] at this; simp at this

end Go.Av.Try
