/- The functions that tell the tables. -/
import Derived.Test.YtlpdmpmfnjcelaaStaT
namespace Go.Proofs.Ytlpdmpmfnjcelaa
open Go.RowKit Go.Deep

set_option maxRecDepth 100000 in
set_option maxHeartbeats 1600000 in
theorem h2s_any (w : World) : Calls Try.prog 9 #[] w fun e w' => ∃ a n cap, e = .returned (.slice a n cap) ∧ Fo w.heap.size w' a n cap tab2 ∧ Below w.heap.size w w' := by
  go_enter Try.func9, Try.ntmps9
  go_wp2_with fail
  go_returns
  exact ⟨_, _, _, rfl, Fo.new w tab2 _ (by decide) (by kernel_rfl), (Below.refl _ _).alloc (Nat.le_refl _) _⟩

end Go.Proofs.Ytlpdmpmfnjcelaa
