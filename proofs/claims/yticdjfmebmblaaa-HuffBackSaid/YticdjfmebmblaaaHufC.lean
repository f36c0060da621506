/- How far the tables have come, as the program makes them. No program in sight. -/
import Derived.Test.YticdjfmebmblaaaHufA
namespace Go.Proofs.Yticdjfmebmblaaa

/-- How many of the first j signs have codes of x bits. -/
def cj : Nat → Nat → Nat
  | 0, _ => 0
  | j + 1, x => cj j x + if lenN j = x then 1 else 0

/-- A sign's place in the order of the codes. -/
def rank (s : Nat) : Nat := atN (lenN s) + cj s (lenN s)

theorem cj_le (j x : Nat) : cj j x ≤ j := by
  induction j with
  | zero => exact Nat.le_refl _
  | succ j ih => simp only [cj]; split <;> omega

def cntS (j : Nat) : List Nat := (List.range 32).map (cj j)
def nxtS (j : Nat) : List Nat := (List.range 32).map fun x => fstN x + cj j x
def fstS (j : Nat) : List Nat := (List.range 32).map fun i => if i ≤ j then fstN i else 0
def ordS (j : Nat) : List Nat := (List.range 257).map fun p => if ordN p < j then ordN p else 0

theorem set_map {f g : Nat → Nat} (n x v : Nat) (h : ∀ i, i < n → g i = if i = x then v else f i) : ((List.range n).map f).set x v = (List.range n).map g := by
  apply List.ext_getElem
  · simp
  · intro i h1 h2
    simp at h1 h2
    rw [List.getElem_set]
    simp only [List.getElem_map, List.getElem_range]
    rw [h i h1]
    by_cases e : x = i
    · rw [if_pos e, if_pos e.symm]
    · rw [if_neg e, if_neg (fun h => e h.symm)]
theorem get_map (f : Nat → Nat) (n x : Nat) (h : x < n) : ((List.range n).map f).getD x 0 = f x := by simp [List.getD, h]

theorem len_ok : ∀ s, s < 257 → lenN s < 31 := by decide +kernel
theorem cntS_set (j : Nat) : (cntS j).set (lenN j) (cj j (lenN j) + 1) = cntS (j + 1) := set_map _ _ _ (fun i _ => by
  simp only [cj]
  by_cases e : i = lenN j
  · subst e; simp
  · rw [if_neg e, if_neg (fun h => e h.symm)]; rfl)
theorem cntS_end : cntS 257 = cntL := by decide +kernel
theorem cntS_start : cntS 0 = List.replicate 32 0 := by decide +kernel
theorem cntS_get (j x : Nat) (h : x < 32) : (cntS j).getD x 0 = cj j x := get_map _ _ _ h
theorem cntS_length (j : Nat) : (cntS j).length = 32 := by simp [cntS]

theorem fstS_set (j : Nat) : (fstS j).set (j + 1) (fstN (j + 1)) = fstS (j + 1) := set_map _ _ _ (fun i _ => by
  by_cases e : i = j + 1
  · subst e; simp
  · rw [if_neg e]
    by_cases h : i ≤ j
    · rw [if_pos h, if_pos (by omega)]
    · rw [if_neg h, if_neg (by omega)])
theorem fstS_end : fstS 31 = firstL := by decide +kernel
theorem fstS_start : fstS 1 = List.replicate 32 0 := by decide +kernel
theorem fstS_get (j x : Nat) (h : x < 32) (hx : x ≤ j) : (fstS j).getD x 0 = fstN x := by
  unfold fstS; rw [get_map _ _ _ h, if_pos hx]
theorem fstS_length (j : Nat) : (fstS j).length = 32 := by simp [fstS]
theorem cnt_le : ∀ n, n < 32 → fstN n ≤ 2147483648 ∧ cntN n ≤ 257 ∧ (n < 31 → fstN n + cntN n ≤ 1073741824) := by decide +kernel

theorem nxtS_set (j : Nat) : (nxtS j).set (lenN j) (fstN (lenN j) + cj j (lenN j) + 1) = nxtS (j + 1) := set_map _ _ _ (fun i _ => by
  simp only [cj]
  by_cases e : i = lenN j
  · subst e; simp; omega
  · rw [if_neg e, if_neg (fun h => e h.symm)]; rfl)
theorem nxtS_start : nxtS 0 = firstL := by decide +kernel
theorem nxtS_get (j x : Nat) (h : x < 32) : (nxtS j).getD x 0 = fstN x + cj j x := get_map _ _ _ h
theorem nxtS_length (j : Nat) : (nxtS j).length = 32 := by simp [nxtS]
theorem code_eq : ∀ s, s < 257 → fstN (lenN s) + cj s (lenN s) = codeN s := by decide +kernel
theorem rank_ok : ∀ s, s < 257 → rank s < 257 ∧ ordN (rank s) = s := by decide +kernel
theorem ord_rank : ∀ p, p < 257 → rank (ordN p) = p ∧ ordN p < 257 := by decide +kernel

theorem ordS_set (j : Nat) (hj : j < 257) : (ordS j).set (rank j) j = ordS (j + 1) := set_map _ _ _ (fun p hp => by
  obtain ⟨h1, h2⟩ := ord_rank p hp
  by_cases e : p = rank j
  · subst e; rw [if_pos rfl, (rank_ok j hj).2, if_pos (by omega)]
  · rw [if_neg e]
    have hne : ordN p ≠ j := fun h => e (by rw [← h, h1])
    by_cases h : ordN p < j
    · rw [if_pos h, if_pos (by omega)]
    · rw [if_neg h, if_neg (by omega)])
theorem ordS_start : ordS 0 = List.replicate 257 0 := by decide +kernel
theorem ordS_end : ordS 257 = orderL := by decide +kernel
theorem ordS_length (j : Nat) : (ordS j).length = 257 := by simp [ordS]

end Go.Proofs.Yticdjfmebmblaaa
