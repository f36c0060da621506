/- The reference's table of QPACK. -/
import Derived.Test.YtlpdmpmfnjcelaaStaT
namespace Go.Proofs.Ytlpdmpmfnjcelaa
open Go.RowKit Go.Deep

theorem wp_of_run {P : Program} {o : Oper} {a : Act} {w w' : World} {v : Value} {K : Act → World → Prop} {Q : Exit → Act → World → Prop} (h : (execOp a.eval o).run P w = .ok (.value v) w') (hk : K (a.put o.dst v) w') : o.wp P a w K Q := by
  unfold Oper.wp
  rw [h]
  exact hk

set_option maxRecDepth 100000 in
set_option maxHeartbeats 6400000 in
theorem h3s_any (w : World) : Calls Try.prog 11 #[] w fun e w' => ∃ a n cap, e = .returned (.slice a n cap) ∧ Fo w.heap.size w' a n cap tab3 ∧ Below w.heap.size w w' := by
  go_enter Try.func11, Try.ntmps11
  go_wp2_with fail
  refine wp_of_run (v := .slice (some ⟨w.heap.size, 0, none⟩) 99 99) (w' := w.alloc (.cells (Fs tab3).toArray 26 (0, 0))) (by kernel_rfl) ?_
  go_wp2_with fail
  go_returns
  exact ⟨_, _, _, rfl, Fo.new w tab3 _ (by decide +kernel) rfl, (Below.refl _ _).alloc (Nat.le_refl _) _⟩

end Go.Proofs.Ytlpdmpmfnjcelaa
