import Derived.Test.YtbfljokjkcdbeaaDParse
set_option linter.unusedSimpArgs false
namespace Go.Av.Try
open Go.Proofs

end Go.Av.Try
