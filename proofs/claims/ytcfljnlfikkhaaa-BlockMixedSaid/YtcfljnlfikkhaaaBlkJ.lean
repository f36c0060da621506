/- Blocks that are split and taken: the plain law. -/
import Derived.Test.YtcfljnlfikkhaaaBlkI
namespace Go.Proofs.Ytcfljnlfikkhaaa
open Go.RowKit Go.Deep

/-- The block's state behind i frames of a split. -/
def spS (most st : Int) (en : Bool) (p : Nat) (ys : List UInt8) (i : Nat) : Bk :=
  if i = 0 then bk0 most else ⟨most, st, en, ys.take (i * p), !spL p ys.length (i - 1), spL p ys.length (i - 1)⟩

theorem spF_last (en : Bool) (p T i : Nat) : lastB (spF en p T i) = spL p T i := by
  unfold spF
  cases spL p T i <;> cases en <;> by_cases h : i = 0 <;> simp only [h, if_true, if_false] <;> decide +kernel
theorem spF_fin (en : Bool) (p T : Nat) : finB (spF en p T 0) = en := by
  unfold spF
  cases spL p T 0 <;> cases en <;> decide +kernel
theorem spF_ahead (en : Bool) (p T : Nat) : aheadI 1 (spF en p T 0) = 0 := by
  unfold spF
  cases spL p T 0 <;> cases en <;> decide +kernel
theorem spF_padP (en : Bool) (p T : Nat) : padP 1 (spF en p T 0) = false := by
  unfold spF
  cases spL p T 0 <;> cases en <;> decide +kernel
theorem spF_pad (en : Bool) (p T : Nat) (xs : List UInt8) : padI 1 (spF en p T 0) xs = 0 := by
  unfold padI
  rw [spF_padP]
  rfl

theorem take_next (p i : Nat) (ys : List UInt8) : ys.take (i * p) ++ (ys.drop (i * p)).take p = ys.take ((i + 1) * p) := by
  rw [Nat.succ_mul, List.take_add]

/-- What one frame of a split does. -/
theorem sp_step {most st : Int} {en : Bool} {p : Nat} {ys : List UInt8} {i : Nat} {f : Fq} (hf : SpAt st en p ys i f) (hst : st ≠ 0) (ho : i = 0 ∨ i * p < ys.length) :
    (spS most st en p ys i).may f.t f.st = true ∧ (spS most st en p ys i).says f.t = true ∧ payQ f.t f.fl f.st f.xs = 0 ∧ (spS most st en p ys i).ys f.t f.fl f.xs = ys.take ((i + 1) * p) ∧
    (spS most st en p ys i).next f.t f.fl f.st f.xs = spS most st en p ys (i + 1) ∧ lastB f.fl = spL p ys.length i ∧ (spS most st en p ys i).most = most := by
  obtain ⟨h1, h2, h3, h4⟩ := hf
  have hl : lastB f.fl = spL p ys.length i := by rw [h2, spF_last]
  by_cases h0 : i = 0
  · subst h0
    have ht : f.t = 1 := h1
    have hx : f.xs = ys.take p := by rw [h4]; unfold spX; rw [Nat.zero_mul, List.drop_zero]
    have hq : payQ f.t f.fl f.st f.xs = 0 := by
      unfold payQ
      rw [ht, h2, h3, spF_ahead, spF_pad, if_neg hst, if_neg (by decide), if_neg (by omega), if_neg (by omega)]
    have hp : payX f.t f.fl f.xs = f.xs := by
      unfold payX
      rw [ht, h2, spF_ahead, spF_pad, if_neg (by decide)]
      simp
    have hy : (spS most st en p ys 0).ys f.t f.fl f.xs = ys.take ((0 + 1) * p) := by
      show [] ++ payX f.t f.fl f.xs = _
      rw [hp, hx, List.nil_append, Nat.zero_add, Nat.one_mul]
    refine ⟨?_, ?_, hq, hy, ?_, hl, rfl⟩
    · rw [ht]; rfl
    · rw [ht]; rfl
    · show (⟨most, f.st, finB f.fl, (spS most st en p ys 0).ys f.t f.fl f.xs, !lastB f.fl, lastB f.fl⟩ : Bk) = ⟨most, st, en, ys.take ((0 + 1) * p), !spL p ys.length 0, spL p ys.length 0⟩
      rw [hy, hl, h3, h2, spF_fin]
  · have ht : f.t = 9 := by rw [h1]; unfold spT; rw [if_neg h0]
    have hlt : i * p < ys.length := by rcases ho with h | h; exact absurd h h0; exact h
    have hop : spL p ys.length (i - 1) = false := by
      unfold spL
      rw [show i - 1 + 1 = i by omega]
      simpa using hlt
    have es : spS most st en p ys i = ⟨most, st, en, ys.take (i * p), true, false⟩ := by
      unfold spS
      rw [if_neg h0, hop]
      rfl
    have hq : payQ f.t f.fl f.st f.xs = 0 := by
      unfold payQ
      rw [ht, h3, if_neg hst, if_pos rfl]
    have hp : payX f.t f.fl f.xs = f.xs := by
      unfold payX
      rw [ht, if_pos rfl]
    have hy : (spS most st en p ys i).ys f.t f.fl f.xs = ys.take ((i + 1) * p) := by
      rw [es]
      show ys.take (i * p) ++ payX f.t f.fl f.xs = _
      rw [hp, h4, ← take_next]
      rfl
    refine ⟨?_, ?_, hq, hy, ?_, hl, ?_⟩
    · rw [es, ht, h3]; simp [Bk.may]
    · rw [es]; rfl
    · show (⟨(spS most st en p ys i).most, if (spS most st en p ys i).opn then (spS most st en p ys i).st else f.st, if (spS most st en p ys i).opn then (spS most st en p ys i).fin else finB f.fl, (spS most st en p ys i).ys f.t f.fl f.xs, !lastB f.fl, lastB f.fl⟩ : Bk) = _
      rw [hy, hl, es]
      unfold spS
      rw [if_neg (show ¬ (i + 1 = 0) by omega), Nat.add_sub_cancel]
      rfl
    · rw [es]

/-- It is taken .. -/
theorem sp_takes {most st : Int} {en : Bool} {p : Nat} {ys : List UInt8} {i : Nat} {f : Fq} (hf : SpAt st en p ys i f) (hst : st ≠ 0) (ho : i = 0 ∨ i * p < ys.length) (hm : ((ys.take ((i + 1) * p)).length : Int) ≤ most) :
    (spS most st en p ys i).rule f.t f.fl f.st f.xs = 0 ∧ (spS most st en p ys i).add f.t f.fl f.st f.xs = spS most st en p ys (i + 1) ∧ (spS most st en p ys i).done f.t f.fl f.st f.xs = spL p ys.length i := by
  obtain ⟨h1, h2, h3, h4, h5, h6, h7⟩ := sp_step (most := most) hf hst ho
  have hn : ¬ (spS most st en p ys i).most < (((spS most st en p ys i).ys f.t f.fl f.xs).length : Int) := by rw [h4, h7]; omega
  have htk := takes_yes h1 h2 h3 hn
  refine ⟨?_, ?_, ?_⟩
  · unfold Bk.rule
    rw [if_neg (by rw [h1]; simp), if_neg (by rw [h2]; simp), if_neg (by rw [h3]; simp), if_neg hn]
  · unfold Bk.add
    rw [if_pos htk, h5]
  · unfold Bk.done
    rw [htk, h6]
    rfl
/-- .. or is too much. -/
theorem sp_refuses {most st : Int} {en : Bool} {p : Nat} {ys : List UInt8} {i : Nat} {f : Fq} (hf : SpAt st en p ys i f) (hst : st ≠ 0) (ho : i = 0 ∨ i * p < ys.length) (hm : most < ((ys.take ((i + 1) * p)).length : Int)) :
    (spS most st en p ys i).rule f.t f.fl f.st f.xs = 3 := by
  obtain ⟨h1, h2, h3, h4, h5, h6, h7⟩ := sp_step (most := most) hf hst ho
  unfold Bk.rule
  rw [if_neg (by rw [h1]; simp), if_neg (by rw [h2]; simp), if_neg (by rw [h3]; simp), if_pos (by rw [h4, h7]; exact hm)]

theorem sp_opens {p T n i : Nat} (hl : n = 1 ∨ (n - 1) * p < T) (hi : i < n) : i = 0 ∨ i * p < T := by
  by_cases h0 : i = 0
  · exact .inl h0
  · rcases hl with h | h
    · omega
    · right
      have : i * p ≤ (n - 1) * p := Nat.mul_le_mul_right p (by omega)
      omega

theorem spS_ok {most st : Int} {en : Bool} {p : Nat} {ys : List UInt8} {i : Nat} (h0 : 0 ≤ most) (h1 : most ≤ 1000000) (hs0 : 0 ≤ st) (hs1 : st ≤ 4294967295) (hm : i = 0 ∨ ((ys.take (i * p)).length : Int) ≤ most) : (spS most st en p ys i).Ok := by
  unfold spS
  split
  · exact bk0_ok h0 h1
  · rename_i h
    exact ⟨h0, h1, by rcases hm with h' | h'; exact absurd h' h; exact h', fun e => by simpa using e, hs0, hs1⟩

end Go.Proofs.Ytcfljnlfikkhaaa
