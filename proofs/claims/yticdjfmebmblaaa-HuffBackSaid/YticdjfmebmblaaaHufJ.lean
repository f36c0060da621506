/- The reference's codes. -/
import Derived.Test.YticdjfmebmblaaaHufI
import Derived.Test.YticdjfmebmblaaaBs
namespace Go.Proofs.Yticdjfmebmblaaa
open Go.RowKit Go.Deep

theorem lenL_cells : ∀ v ∈ (lenL.map fun n : Nat => Value.int .i64 (n : Int)), v.cells = #[v] := by
  intro v hv
  obtain ⟨x, _, rfl⟩ := List.mem_map.1 hv
  rfl

set_option maxRecDepth 100000 in
set_option maxHeartbeats 1600000 in
theorem lengthsr_any (w : World) : Calls Try.prog 22 #[] w fun e w' => e = .returned (.slice (some ⟨w.heap.size, 0, none⟩) 257 257) ∧ w.alloc (.cells (Ns .i64 lenL) 3 (0, 0)) = w' := by
  go_enter Try.func22, Try.ntmps22
  go_wp2_with (refine wpList_row rfl _ _ _ rfl 3 (.int .i64 0) Try.underlying58 (by kernel_rfl) (lenL.map fun n : Nat => Value.int .i64 (n : Int)) (by kernel_rfl) (by rw [List.length_map, lenL_length]) (by omega) (by omega) lenL_cells ?_; refine halt ?_)
  refine Halted.go ?_
  go_wp2_with fail
  go_returns
  exact ⟨rfl, rfl⟩

def flS (m : Nat) : List (Nat × Nat) := (List.range 257).map fun i => if rank i < m then (codeN i, lenN i) else (0, 0)
def cM (m : Nat) : Nat := if m = 0 then 0 else codeN (ordN (m - 1))
def hM (m : Nat) : Nat := if m = 0 then 0 else lenN (ordN (m - 1))
theorem flS_length (m : Nat) : (flS m).length = 257 := by simp [flS]
theorem flS_set (s : Nat) (hs : s < 257) : (flS (rank s)).set s (codeN s, lenN s) = flS (rank s + 1) := by
  unfold flS
  apply List.ext_getElem
  · simp
  · intro i h1 h2
    simp at h1 h2
    rw [List.getElem_set]
    simp only [List.getElem_map, List.getElem_range]
    by_cases e : s = i
    · subst e; rw [if_pos rfl, if_pos (by omega)]
    · rw [if_neg e]
      have hne : rank i ≠ rank s := fun h => e (by rw [← (rank_ok s hs).2, ← h, (rank_ok i h1).2])
      by_cases h : rank i < rank s
      · rw [if_pos h, if_pos (by omega)]
      · rw [if_neg h, if_neg (by omega)]
theorem flS_start : flS 0 = List.replicate 257 (0, 0) := by
  unfold flS
  apply List.ext_getElem
  · rw [List.length_map, List.length_range, List.length_replicate]
  · intro i h1 h2
    rw [List.getElem_map, List.getElem_replicate, if_neg (Nat.not_lt_zero _)]
theorem flS_end : flS 257 = prL := by
  unfold flS prL prS
  refine List.map_congr_left fun i hi => ?_
  have h := List.mem_range.1 hi
  rw [if_pos (rank_ok i h).1, if_pos h]
theorem ord_step : ∀ p, p < 257 → (p = 0 → codeN (ordN p) = 0) ∧ (0 < p → lenN (ordN (p - 1)) ≤ lenN (ordN p) ∧ 5 ≤ lenN (ordN (p - 1)) ∧ codeN (ordN (p - 1)) < 1073741824 ∧ codeN (ordN p) = (codeN (ordN (p - 1)) + 1) * 2 ^ (lenN (ordN p) - lenN (ordN (p - 1)))) := by decide +kernel
theorem rank_step (s : Nat) (hs : s < 257) : (rank s = 0 → codeN s = 0) ∧ (0 < rank s → lenN (ordN (rank s - 1)) ≤ lenN s ∧ 5 ≤ lenN (ordN (rank s - 1)) ∧ codeN (ordN (rank s - 1)) < 1073741824 ∧ codeN s = (codeN (ordN (rank s - 1)) + 1) * 2 ^ (lenN s - lenN (ordN (rank s - 1)))) := by
  have h := ord_step (rank s) (rank_ok s hs).1
  rwa [(rank_ok s hs).2] at h
theorem at_succ : ∀ n, n < 31 → atN (n + 1) = atN n + cj 257 n := by decide +kernel
theorem at_five : atN 5 = 0 := by decide +kernel
theorem at_end : atN 31 = 257 := by decide +kernel
theorem cM_lt (m : Nat) (h : m ≤ 257) : cM m < 1073741824 ∧ hM m ≤ 30 := by
  unfold cM hM
  split
  · omega
  · have ho := (ord_rank (m - 1) (by omega)).2
    have hl := (code_ok _ ho).2.1
    have hp : 2 ^ lenN (ordN (m - 1)) ≤ 2 ^ 30 := Nat.pow_le_pow_right (by omega) hl
    exact ⟨Nat.lt_of_lt_of_le (code_lt ho) hp, hl⟩
theorem cj_add_le (n s : Nat) (hn : n < 31) (hs : s ≤ 257) : atN n + cj s n ≤ 257 := by
  have h1 := at_succ n hn
  have h2 : atN (n + 1) ≤ 257 := by
    have : ∀ k, k < 31 → atN (k + 1) ≤ 257 := by decide +kernel
    exact this n hn
  have h3 : ∀ d k, cj k n ≤ cj (k + d) n := by
    intro d k
    induction d with
    | zero => exact Nat.le_refl _
    | succ d ih => exact Nat.le_trans ih (by show cj (k + d) n ≤ cj (k + d) n + _; omega)
  have := h3 (257 - s) s
  rw [show s + (257 - s) = 257 by omega] at this
  omega

theorem make_codes (w : World) : (Instr.makeSlice 33 (.int .i64 257) (.int .i64 257)).run Try.prog w = .ok (.slice (some ⟨w.heap.size, 0, none⟩) 257 257) (w.alloc (.cells (Cs (List.replicate 257 (0, 0))) 39)) := by kernel_rfl

end Go.Proofs.Yticdjfmebmblaaa
