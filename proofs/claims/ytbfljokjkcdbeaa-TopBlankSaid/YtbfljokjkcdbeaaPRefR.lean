import Derived.Test.YtbfljokjkcdbeaaPLitR
/- The document's references, walked. -/
set_option linter.unusedSimpArgs false
namespace Go.Av.Try
open Go.Proofs

end Go.Av.Try
