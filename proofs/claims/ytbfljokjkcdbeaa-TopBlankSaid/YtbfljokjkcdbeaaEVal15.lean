import Derived.Test.YtbfljokjkcdbeaaEVal14
/- The document's way to set a dictionary's entry. -/
set_option linter.unusedSimpArgs false
namespace Go.Av.Try
open Go.Proofs

def leqB (a b : List UInt8) : Bool := Op.bytesLess a b || decide (a = b)
theorem mk_d (k n : Int) (s : List UInt8) (l : List Val) (f : List Fld) : (Val.mk k n s l f).d = .agg [.int .i64 k, .int .i64 n, .str s, .list (valsD l), .list (fldsD f)] := by rw [Val.d_eq]; rfl

end Go.Av.Try
