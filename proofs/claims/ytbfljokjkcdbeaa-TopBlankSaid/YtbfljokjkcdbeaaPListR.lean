import Derived.Test.YtbfljokjkcdbeaaPRefR
import Derived.Test.YtbfljokjkcdbeaaPGood
/- The document's lists and dictionaries, read. -/
set_option linter.unusedSimpArgs false
namespace Go.Av.Try
open Go.Proofs

/-- A row of values that grows in a cell: nothing at first. -/
def lrow (r : Ref) (off : Nat) : List Val → AV
  | [] => .ns
  | x :: l => .own (.c r off) 48 5 (valsD (x :: l))
theorem lrow_cases (r : Ref) (off : Nat) (l : List Val) : (lrow r off l = .ns ∧ l = []) ∨ lrow r off l = .own (.c r off) 48 5 (valsD l) := by
  cases l with
  | nil => exact .inl ⟨rfl, rfl⟩
  | cons x l => exact .inr rfl
theorem lrow_snoc (r : Ref) (off : Nat) (l : List Val) (x : Val) : lrow r off (l ++ [x]) = .own (.c r off) 48 5 (valsD l ++ [x.d]) := by
  cases l with
  | nil => rfl
  | cons y l => simp [lrow, valsD, valsD_append]

end Go.Av.Try
