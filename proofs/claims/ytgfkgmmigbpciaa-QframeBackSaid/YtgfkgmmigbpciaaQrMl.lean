/- What the walks of the statements share. -/
import Derived.Test.YtgfkgmmigbpciaaQrI
import Derived.Test.YtgfkgmmigbpciaaQfT
namespace Go.Proofs.Ytgfkgmmigbpciaa
set_option linter.unusedSimpArgs false
set_option linter.unusedVariables false
open Go.RowKit Go.Deep

theorem FramesP.below {a : Option Addr} {r : Option (List UInt8)} {w : World} {e : Ending} {w' : World} (h : FramesP w.heap.size a r w e w') : Below w.heap.size w w' := Keeps.mine_below (Below.refl _ w) h.1 (Nat.le_refl _) (Nat.le_refl _)


end Go.Proofs.Ytgfkgmmigbpciaa
