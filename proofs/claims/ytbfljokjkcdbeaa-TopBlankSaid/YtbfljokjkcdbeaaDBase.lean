import Derived.Test.YtbfljokjkcdbeaaDInv
set_option linter.unusedSimpArgs false
namespace Go.Av.Try
open Go.Proofs
def errD (n : Nat) : D := if n = 0 then .nil else .iface 76 (.int .i64 n)
theorem errD_ne {n : Nat} (h : n ≠ 0) : errD n = .iface 76 (.int .i64 n) := by simp [errD, h]

end Go.Av.Try
