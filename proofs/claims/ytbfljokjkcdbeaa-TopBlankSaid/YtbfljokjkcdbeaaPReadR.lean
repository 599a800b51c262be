import Derived.Test.YtbfljokjkcdbeaaPDictR
import Derived.Test.YtbfljokjkcdbeaaEVal6
import Derived.Test.YtbfljokjkcdbeaaDRead
/- The document's values, read. -/
set_option linter.unusedSimpArgs false
namespace Go.Av.Try
open Go.Proofs

theorem kmk (k n : Int) (s : List UInt8) : (Val.mk k n s [] []).d = .agg [.int .i64 k, .int .i64 n, .str s, .list [], .list []] := by rw [mk_d]; rfl

end Go.Av.Try
