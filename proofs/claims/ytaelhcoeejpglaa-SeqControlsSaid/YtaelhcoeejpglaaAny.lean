/- A region whose order is open, by what holds of the operations that have come up. No program in sight. -/
import Derived.Test.YtaelhcoeejpglaaW
import Derived.Orders
namespace Go.Proofs.Ytaelhcoeejpglaa
open Go.RowKit

theorem count_set {l : Array Bool} {i : Nat} (h : l.getD i true = false) : (l.setIfInBounds i true).count false + 1 = l.count false := by
  have hi : i < l.size := by
    rcases Nat.lt_or_ge i l.size with h' | h'
    · exact h'
    · simp [Array.getElem?_eq_none h'] at h
  have hv : l[i] = false := by simpa [hi] using h
  rw [Array.setIfInBounds_def, dif_pos hi, Array.count_set]
  have : 0 < l.count false := Array.count_pos_iff.2 (hv ▸ Array.getElem_mem hi)
  simp [hv]
  omega

/-- Whatever order is drawn: I holds at the start, each operation that may come up keeps it, and at the end it gives what is asked. -/
theorem wpAny_inv {P : Program} {md : Region.Mode} {ops : Array Oper} {Q : Exit → Act → World → Prop} (I : Array Bool → Act → World → Prop)
    (hstep : ∀ listed a w i, I listed a w → i ∈ Region.ready md ops listed → wpOp P ops Q i (fun a' w' => I (listed.setIfInBounds i true) a' w') a w)
    (hdone : ∀ listed a w, I listed a w → Region.ready md ops listed = [] → Q .normal a w) :
    ∀ (fuel : Nat) (listed : Array Bool) (a : Act) (w : World), listed.count false ≤ fuel → I listed a w → wpAny P md ops Q fuel listed a w
  | 0, listed, a, w, hc, hI => by
    have hr : Region.ready md ops listed = [] := by
      rw [List.eq_nil_iff_forall_not_mem]
      intro i hi
      have := count_set (mem_ready.1 hi).1
      omega
    exact ⟨hr, hdone _ _ _ hI hr⟩
  | fuel + 1, listed, a, w, hc, hI => by
    refine ⟨fun hr => hdone _ _ _ hI hr, fun i hi => ?_⟩
    refine wpOp_mono (fun a' w' h => wpAny_inv I hstep hdone fuel _ a' w' ?_ h) (hstep _ _ _ _ hI hi)
    have := count_set (mem_ready.1 hi).1
    omega

/-- .. up to L1, by operations that leave the frame alone. -/
theorem wpAny_phase {P : Program} {md : Region.Mode} {ops : Array Oper} {Q : Exit → Act → World → Prop} {a : Act} (In : Array Bool → Prop) (L1 : Array Bool) (I : Array Bool → World → Prop)
    (hne : ∀ l, In l → l ≠ L1 → Region.ready md ops l ≠ [])
    (hstep : ∀ l w i, In l → l ≠ L1 → I l w → i ∈ Region.ready md ops l → wpOp P ops Q i (fun a' w' => a' = a ∧ In (l.setIfInBounds i true) ∧ I (l.setIfInBounds i true) w') a w)
    (hend : ∀ w, I L1 w → wpAny P md ops Q (L1.count false) L1 a w) :
    ∀ (n : Nat) (l : Array Bool) (w : World), l.count false = n → In l → I l w → wpAny P md ops Q n l a w
  | n, l, w, hn, hIn, hI => by
    by_cases hl : l = L1
    · subst hl; subst hn; exact hend w hI
    · cases n with
      | zero =>
        exfalso
        refine hne l hIn hl (List.eq_nil_iff_forall_not_mem.2 fun i hi => ?_)
        have := count_set (mem_ready.1 hi).1
        omega
      | succ n =>
        refine ⟨fun hr => absurd hr (hne l hIn hl), fun i hi => ?_⟩
        refine wpOp_mono (fun a' w' h => ?_) (hstep _ _ _ hIn hl hI hi)
        obtain ⟨rfl, h2, h3⟩ := h
        refine wpAny_phase In L1 I hne hstep hend n _ w' ?_ h2 h3
        have := count_set (mem_ready.1 hi).1
        omega

end Go.Proofs.Ytaelhcoeejpglaa
