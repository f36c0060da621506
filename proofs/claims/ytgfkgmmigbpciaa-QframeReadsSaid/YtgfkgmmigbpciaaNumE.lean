/- ReadPrefix of the packages num and bifoldref1. -/
import Derived.Test.YtgfkgmmigbpciaaNumD
namespace Go.Proofs.Ytgfkgmmigbpciaa
set_option linter.unusedSimpArgs false
set_option linter.unusedVariables false
open Go.RowKit Go.Deep

end Go.Proofs.Ytgfkgmmigbpciaa
