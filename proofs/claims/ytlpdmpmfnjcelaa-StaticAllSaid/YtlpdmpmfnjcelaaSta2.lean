/- The functions that tell the tables. -/
import Derived.Test.YtlpdmpmfnjcelaaStaT
namespace Go.Proofs.Ytlpdmpmfnjcelaa
open Go.RowKit Go.Deep

set_option maxRecDepth 100000 in
set_option maxHeartbeats 1600000 in
theorem low_any (w : World) : Calls Try.prog 19 #[] w fun e w' => ∃ a n cap, e = .returned (.slice a n cap) ∧ Fo w.heap.size w' a n cap tabL ∧ Below w.heap.size w w' := by
  go_enter Try.func19, Try.ntmps19
  go_wp2_with fail
  go_returns
  exact ⟨_, _, _, rfl, Fo.new w tabL _ (by decide) (by kernel_rfl), (Below.refl _ _).alloc (Nat.le_refl _) _⟩

set_option maxRecDepth 100000 in
set_option maxHeartbeats 1600000 in
theorem high_any (w : World) : Calls Try.prog 20 #[] w fun e w' => ∃ a n cap, e = .returned (.slice a n cap) ∧ Fo w.heap.size w' a n cap tabH ∧ Below w.heap.size w w' := by
  go_enter Try.func20, Try.ntmps20
  go_wp2_with fail
  go_returns
  exact ⟨_, _, _, rfl, Fo.new w tabH _ (by decide) (by kernel_rfl), (Below.refl _ _).alloc (Nat.le_refl _) _⟩

end Go.Proofs.Ytlpdmpmfnjcelaa
