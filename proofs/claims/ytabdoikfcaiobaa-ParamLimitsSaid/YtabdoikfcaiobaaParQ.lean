/- Thirty to thirty-four parameters; one number turned. -/
import Derived.Test.YtabdoikfcaiobaaParP
namespace Go.Proofs.Ytabdoikfcaiobaa
open Go.RowKit Go.Deep Go.Maps

def limF (i : Nat) : Fr := ⟨100 + (i : Int), none, 0, 0, []⟩
def lim (k : Nat) : List Fr := (List.range k).map limF
theorem lim_length (k : Nat) : (lim k).length = k := by simp [lim]
theorem lim_succ (k : Nat) : lim (k + 1) = lim k ++ [limF k] := by simp [lim, List.range_succ]
theorem lim_get (k i : Nat) (h : i < (lim k).length) : (lim k)[i] = limF i := by simp [lim]
theorem lim_mem {k : Nat} {f : Fr} (h : f ∈ lim k) : ∃ i, i < k ∧ f = limF i := by
  obtain ⟨i, hi, rfl⟩ := List.mem_map.1 h
  exact ⟨i, List.mem_range.1 hi, rfl⟩

theorem lim_err (k : Nat) (hk : k ≤ 100) : paErr (lim k) = if k ≤ 32 then 0 else 41 := by
  by_cases h : k ≤ 32
  · rw [if_pos h, (pa_good (pa_all (by rw [lim_length]; exact h) ?_ ?_)).2]
    · unfold idL lim
      rw [List.map_map]
      refine List.Pairwise.map _ (fun a b hab => ?_) List.nodup_range
      simp only [Function.comp, limF]
      omega
    · unfold frsOK
      rw [List.all_eq_true]
      intro f hf
      obtain ⟨i, hi, rfl⟩ := lim_mem hf
      unfold frOK varsOK limF
      simp
      omega
  · rw [if_neg h, (pa_bad (pa_many (by rw [lim_length]; omega))).2]

/-- The last number turned to an earlier one. -/
def limT (k j : Nat) : List Fr := (lim k).set (k - 1) (limF j)
theorem limT_err (k j : Nat) (hj : j < k - 1) : paErr (limT k j) = 41 := by
  have hlen : (limT k j).length = k := by simp [limT, lim_length]
  refine (pa_bad (pa_twice (i := k - 1) (by omega) ?_)).2
  have e : (limT k j)[k - 1]'(by omega) = limF j := by simp [limT]
  rw [e]
  unfold idL limT
  rw [List.take_set_of_le (Nat.le_refl _)]
  refine List.mem_map.2 ⟨limF j, ?_, rfl⟩
  refine List.mem_iff_getElem.2 ⟨j, by simp [lim_length]; omega, ?_⟩
  rw [List.getElem_take, lim_get]

theorem Frs_set (f : Fr) : ∀ (l : List Fr) (i : Nat) (hi : i < l.length), l[i].a = f.a → l[i].n = f.n → l[i].cap = f.cap → Frs (l.set i f) = (Frs l).set (i * 2) (.int .u64 f.t)
  | g :: l, 0, _, h1, h2, h3 => by
    simp only [List.getElem_cons_zero] at h1 h2 h3
    simp [Frs, h1, h2, h3]
  | g :: l, i + 1, hi, h1, h2, h3 => by
    simp only [List.getElem_cons_succ] at h1 h2 h3
    have := Frs_set f l i (by simpa using hi) h1 h2 h3
    have e : (i + 1) * 2 = i * 2 + 1 + 1 := by omega
    rw [e]
    simp [Frs, this]

theorem Po.row {base : Nat} {w : World} {a : Option Addr} {cap : Nat} {l : List Fr} (h : Po base w a cap l) (hn : 0 < l.length) :
    ∃ g, a = some ⟨g, 0, none⟩ ∧ base ≤ g ∧ g < w.heap.size ∧ (∀ i (hi : i < l.length), w.cell? ⟨g, i * 2, none⟩ = some (.int .u64 l[i].t)) ∧ ∀ i, w.frozen? ⟨g, i, none⟩ = false := by
  obtain ⟨⟨h1, h2⟩, _⟩ := h
  rcases h2 with ⟨hv, h0⟩ | ⟨g, cap', cur, hv, hg, hb, hnc, hcm, hs, ht⟩
  · omega
  · cases hv
    have ho : w.ownsRow base 42 2 (.slice (some ⟨g, 0, none⟩) l.length cap) l.length (Frs l) := ⟨h1, .inr ⟨g, cap, cur, rfl, hg, hb, hnc, hcm, hs, ht⟩⟩
    refine ⟨g, rfl, hg, lt_of_block hb, fun i hi => ?_, fun i => ho.frozenAt i⟩
    rw [ho.cellAt (i * 2) (by omega)]
    exact (Frs_get l i hi).1

theorem limT_po {base : Nat} {w : World} {g cap k : Nat} (h : Po base w (some ⟨g, 0, none⟩) cap (lim k)) (j : Nat) (hj : j < k - 1) :
    Po base (w.setCell ⟨g, (k - 1) * 2, none⟩ (.int .u64 (100 + (j : Int)))) (some ⟨g, 0, none⟩) cap (limT k j) := by
  have hp : Po base w (some ⟨g, 0, none⟩) cap (lim k) := h
  refine ⟨?_, fun f hf => ?_⟩
  · have hlen : (limT k j).length = (lim k).length := by simp [limT]
    have := (h.1.stored ((k - 1) * 2) (.int .u64 (100 + (j : Int)))).1
    rw [hlen]
    unfold limT
    rw [Frs_set (limF j) (lim k) (k - 1) (by rw [lim_length]; omega) (by rw [lim_get]; rfl) (by rw [lim_get]; rfl) (by rw [lim_get]; rfl)]
    exact this
  · have hk : ∃ i, f = limF i ∧ i < k := by
      rcases List.mem_or_eq_of_mem_set hf with h1 | h1
      · obtain ⟨i, hi, rfl⟩ := lim_mem h1; exact ⟨i, rfl, hi⟩
      · exact ⟨j, h1, by omega⟩
    obtain ⟨i, rfl, hi⟩ := hk
    have hm : limF i ∈ lim k := List.mem_map.2 ⟨i, List.mem_range.2 hi, rfl⟩
    exact ⟨(h.2 _ hm).1, By.nil _, fun b hb => by cases hb⟩

theorem lim_n (k : Nat) : ∀ f ∈ lim k, f.n ≤ 1000000 := fun f hf => by
  obtain ⟨i, _, rfl⟩ := lim_mem hf
  exact Nat.zero_le _
theorem limT_n (k j : Nat) : ∀ f ∈ limT k j, f.n ≤ 1000000 := fun f hf => by
  rcases List.mem_or_eq_of_mem_set hf with h1 | h1
  · exact lim_n k f h1
  · rw [h1]; exact Nat.zero_le _
theorem lim_no (q : Nat) (hq : q ≤ 50) : (paErr (lim (30 + q)) == 0) = (decide (((30 : Nat) + q : Int) ≤ 32) && !false) := by
  rw [lim_err _ (by omega)]
  by_cases h : 30 + q ≤ 32
  · rw [if_pos h, decide_eq_true (by omega)]; rfl
  · rw [if_neg h, decide_eq_false (by omega)]; rfl
theorem limT_no (q j : Nat) (hj : j < 30 + q - 1) : (paErr (limT (30 + q) j) == 0) = (decide (((30 : Nat) + q : Int) ≤ 32) && !true) := by
  rw [limT_err _ _ hj]; simp
theorem limT_po2 {base : Nat} {w : World} {g cap q : Nat} (h : Po base w (some ⟨g, 0, none⟩) cap (lim (30 + q))) (j : Nat) (hj : j < 30 + q - 1) :
    Po base (w.setCell ⟨g, (29 + q) * 2, none⟩ (.int .u64 (100 + (j : Int)))) (some ⟨g, 0, none⟩) cap (limT (30 + q) j) := by
  have := limT_po h j hj
  rwa [show 30 + q - 1 = 29 + q from by omega] at this

end Go.Proofs.Ytabdoikfcaiobaa
