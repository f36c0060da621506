/- What is written of a frame is read back: the plain law. -/
import Derived.Test.YtgfkgmmigbpciaaQrA
import Derived.Test.YtgfkgmmigbpciaaQfJ
namespace Go.Proofs.Ytgfkgmmigbpciaa
set_option linter.unusedSimpArgs false
set_option linter.unusedVariables false
open Go.RowKit Go.Deep

end Go.Proofs.Ytgfkgmmigbpciaa
