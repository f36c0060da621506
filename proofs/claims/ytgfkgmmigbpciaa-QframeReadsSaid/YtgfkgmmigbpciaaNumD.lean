/- bitsOf and Prefix of the packages num and bifoldref1. -/
import Derived.Test.YtgfkgmmigbpciaaNumC
namespace Go.Proofs.Ytgfkgmmigbpciaa
set_option linter.unusedSimpArgs false
set_option linter.unusedVariables false
open Go.RowKit Go.Deep

end Go.Proofs.Ytgfkgmmigbpciaa
