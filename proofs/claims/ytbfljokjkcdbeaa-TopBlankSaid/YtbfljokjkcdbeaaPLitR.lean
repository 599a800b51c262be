import Derived.Test.YtbfljokjkcdbeaaPNameR
/- The document's strings in brackets, walked. -/
set_option linter.unusedSimpArgs false
namespace Go.Av.Try
open Go.Proofs

end Go.Av.Try
