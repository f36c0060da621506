/- What Read says of a frame of zeros, of any type. -/
import Derived.Test.YtcckdahpagkbaaaPayP
import Derived.Test.YtcckdahpagkbaaaPayN
import Derived.Test.YtcckdahpagkbaaaPayO
namespace Go.Proofs.Ytcckdahpagkbaaa
open Go.RowKit Go.Deep

theorem flags_all : ∀ f : Fin 256, bits .and .u8 (bits .andNot .u8 (f.val : Int) 40) 8 = 0 ∧ bits .and .u8 (bits .andNot .u8 (f.val : Int) 40) 32 = 0 ∧ bits .and .u8 (bits .andNot .u8 (f.val : Int) 40) 1 = bits .and .u8 (f.val : Int) 1 := by decide +kernel
theorem flags_ok {f : Int} (h0 : 0 ≤ f) (h1 : f ≤ 255) : bits .and .u8 (bits .andNot .u8 f 40) 8 = 0 ∧ bits .and .u8 (bits .andNot .u8 f 40) 32 = 0 ∧ bits .and .u8 (bits .andNot .u8 f 40) 1 = bits .and .u8 f 1 := by
  have := flags_all ⟨f.toNat, by omega⟩
  rwa [show ((f.toNat : Nat) : Int) = f by omega] at this

theorem readS (tt FL st : Int) (a : Option Addr) (n cap : Nat) (w : World) (h0 : 0 ≤ tt) (h1 : tt ≤ 11) (hx : By w a n cap (List.replicate n 0)) (hn : n ≤ 1000) (hz : zeroP tt st = true) (hf8 : bits .and .u8 FL 8 = 0) (hf32 : bits .and .u8 FL 32 = 0) :
    Calls Try.prog 9 #[FrV tt FL st a n cap] w (Rul w (if sizeP tt FL n then (if tt = 8 then 3 else 0) else 1)) := by
  have hpad : padP tt FL = false := by simp [padP, hf8]
  have hpi : padI tt FL (List.replicate n 0) = ((0 : Nat) : Int) := by simp [padI, hpad]
  have hprio : prioP tt FL = false := by simp [prioP, hf32]
  by_cases hg : sizeP tt FL n = true
  · rw [if_pos hg]
    rcases (show tt = 0 ∨ tt = 1 ∨ tt = 2 ∨ tt = 3 ∨ tt = 4 ∨ tt = 5 ∨ tt = 6 ∨ tt = 7 ∨ tt = 8 ∨ tt = 9 ∨ tt = 10 ∨ tt = 11 by omega) with rfl | rfl | rfl | rfl | rfl | rfl | rfl | rfl | rfl | rfl | rfl | rfl
    · refine (read_told 0 FL st a n cap _ 0 0 n w hx (by omega) (.inl rfl) hz hg (by simp [aheadI, hpad, hprio]) hpi (by omega) (by omega) (fun h => by rw [hpad] at h; cases h)).mono ?_
      rintro e w' ⟨a', c', rfl, _, _, hk⟩
      exact ⟨_, _, _, _, _, _, _, _, _, rfl, hk⟩
    · refine (read_told 1 FL st a n cap _ 0 0 n w hx (by omega) (.inr rfl) hz hg (by simp [aheadI, hpad, hprio]) hpi (by omega) (by omega) (fun h => by rw [hpad] at h; cases h)).mono ?_
      rintro e w' ⟨a', c', rfl, _, _, hk⟩
      exact ⟨_, _, _, _, _, _, _, _, _, rfl, hk⟩
    · exact read_rest 2 FL st a n cap _ 0 0 n w hx (by omega) (fun w' h => told_2 FL st a n cap _ w' h (by omega)) rfl hz hg (by simp [aheadI, hpad, hprio]) hpi (by omega) (by omega) (fun h => by rw [hpad] at h; cases h)
    · exact read_rest 3 FL st a n cap _ 0 0 n w hx (by omega) (fun w' h => told_3 FL st a n cap _ w' h (by omega)) rfl hz hg (by simp [aheadI, hpad, hprio]) hpi (by omega) (by omega) (fun h => by rw [hpad] at h; cases h)
    · exact read_rest 4 FL st a n cap _ 0 0 n w hx (by omega) (fun w' h => told_4 FL st a n cap _ w' h (by omega) (by simp [sizeP] at hg; omega)) rfl hz hg (by simp [aheadI, hpad, hprio]) hpi (by omega) (by omega) (fun h => by rw [hpad] at h; cases h)
    · have ha : aheadI 5 FL = ((4 : Nat) : Int) := by simp [aheadI, hpad, hprio]
      have h4 : 4 ≤ n := by simp [sizeP, ha] at hg; omega
      exact read_rest 5 FL st a n cap _ 4 0 n w hx (by omega) (fun w' h => told_5 FL st a n cap _ w' h (by omega) hpad h4) rfl hz hg ha hpi (by omega) (by omega) (fun h => by rw [hpad] at h; cases h)
    · exact read_rest 6 FL st a n cap _ 0 0 n w hx (by omega) (fun w' h => told_6 FL st a n cap _ w' h (by omega)) rfl hz hg (by simp [aheadI, hpad, hprio]) hpi (by omega) (by omega) (fun h => by rw [hpad] at h; cases h)
    · exact read_rest 7 FL st a n cap _ 0 0 n w hx (by omega) (fun w' h => told_7 FL st a n cap _ w' h (by omega) (by simp [sizeP] at hg; omega)) rfl hz hg (by simp [aheadI, hpad, hprio]) hpi (by omega) (by omega) (fun h => by rw [hpad] at h; cases h)
    · exact read_window FL st a n cap _ 0 0 n w hx (by omega) (fun w' h => told_8 FL st a n cap _ w' h (by omega) rfl) hz hg (by simp [aheadI, hpad, hprio]) hpi (by omega) (by omega) (fun h => by rw [hpad] at h; cases h)
    · exact read_rest 9 FL st a n cap _ 0 0 n w hx (by omega) (fun w' h => told_9 FL st a n cap _ w' h (by omega)) rfl hz hg (by simp [aheadI, hpad, hprio]) hpi (by omega) (by omega) (fun h => by rw [hpad] at h; cases h)
    · exact read_rest 10 FL st a n cap _ 0 0 n w hx (by omega) (fun w' h => told_10 FL st a n cap _ w' h (by omega)) rfl hz hg (by simp [aheadI, hpad, hprio]) hpi (by omega) (by omega) (fun h => by rw [hpad] at h; cases h)
    · exact read_rest 11 FL st a n cap _ 0 0 n w hx (by omega) (fun w' h => told_11 FL st a n cap _ w' h (by omega)) rfl hz hg (by simp [aheadI, hpad, hprio]) hpi (by omega) (by omega) (fun h => by rw [hpad] at h; cases h)
  · rw [if_neg hg]
    refine (read_size tt FL st a n cap w (by omega) hz (by simpa using hg)).mono ?_
    rintro e w' ⟨rfl, hk⟩
    exact ⟨none, 0, 0, none, 0, 0, 0, 0, 0, rfl, hk⟩

end Go.Proofs.Ytcckdahpagkbaaa
