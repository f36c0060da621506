/- Prefixes written and read: the plain law; slices cut. -/
import Derived.Test.YtgfkgmmigbpciaaNumG
namespace Go.Proofs.Ytgfkgmmigbpciaa
set_option linter.unusedSimpArgs false
set_option linter.unusedVariables false
open Go.RowKit Go.Deep

theorem By.cut {w : World} {a : Option Addr} {n cap : Nat} {xs : List UInt8} (h : By w a n cap xs) : By w a n n xs := ⟨h.1, Nat.le_refl _, Nat.le_trans h.2.le h.2.max, h.2.len, h.2.at_⟩
end Go.Proofs.Ytgfkgmmigbpciaa
