import Derived.Test.YtbfljokjkcdbeaaDFix
set_option linter.unusedSimpArgs false
namespace Go.Av.Try
open Go.Proofs

end Go.Av.Try
