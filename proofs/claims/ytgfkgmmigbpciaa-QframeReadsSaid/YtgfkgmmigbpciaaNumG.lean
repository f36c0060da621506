/- Arguments that are slices of bytes and of numbers; the plain law of numbers written and read. -/
import Derived.Test.YtgfkgmmigbpciaaNumF
namespace Go.Proofs.Ytgfkgmmigbpciaa
set_option linter.unusedSimpArgs false
set_option linter.unusedVariables false
open Go.RowKit Go.Deep

theorem list_of {α : Type} (f : α → Value) (V : Nat → Value) : ∀ n : Nat, (∀ i, i < n → ∃ c, V i = f c) → ∃ xs : List α, xs.length = n ∧ ∀ i (hi : i < xs.length), V i = f xs[i] := by
 intro n
 induction n with
 | zero => intro _; exact ⟨[], rfl, fun i hi => by simp at hi⟩
 | succ n ih =>
  intro h
  obtain ⟨xs, h1, h2⟩ := ih (fun i hi => h i (by omega))
  obtain ⟨c, hc⟩ := h n (by omega)
  refine ⟨xs ++ [c], by simp [h1], fun i hi => ?_⟩
  by_cases hn : i < xs.length
  ·rw [List.getElem_append_left hn]; exact h2 i hn
  ·have : i = n := by simp at hi; omega
   subst this
   rw [hc]
   congr 1
   rw [List.getElem_append_right (by omega)]
   simp

theorem Seen.vw {α : Type} {f : α → Value} {w : World} {a : Option Addr} {len cap : Nat} {V : Nat → Nat → Value} {xs : List α} (hl : len ≤ cap) (hm : cap ≤ maxLen) (hs : Seen w a cap 1 V) (h1 : xs.length = len) (h2 : ∀ i (hi : i < xs.length), V i 0 = f xs[i]) : Vw w a len cap 1 (xs.map f) := by
 refine ⟨hl, hm, by simp [h1], ?_⟩
 rcases hs with h0 | ⟨b, off, rfl, hb, hc⟩
 ·exact .inl (by have : xs = [] := List.eq_nil_of_length_eq_zero (by omega); simp [this])
 ·refine .inr ⟨b, off, rfl, hb, fun j u hj => ?_⟩
  rw [List.getElem?_map] at hj
  obtain ⟨x, hx, rfl⟩ := Option.map_eq_some_iff.1 hj
  obtain ⟨hjl, rfl⟩ := List.getElem?_eq_some_iff.1 hx
  have := hc j 0 (by omega) (by omega)
  rw [← h2 j hjl, ← this]
  simp

theorem Vw.lt {w : World} {a : Option Addr} {len cap : Nat} {cs : List Value} (h : Vw w a len cap 1 cs) (h0 : 0 < len) : ∀ b, a.map (·.block) = some b → b < w.heap.size := by
 rcases h.at_ with rfl | ⟨b, off, rfl, hb, _⟩
 ·have := h.len; simp at this; omega
 ·intro c hc; cases hc; exact hb

/-- A slice of bytes that came in. It is nil where it has no room. -/
theorem Arg.bytes {w : World} {v : Value} (h : Arg Try.prog w 22 v) : ∃ a n cap xs, v = .slice a n cap ∧ By w a n cap xs ∧ (∀ w', Below w.heap.size w w' → By w' a n cap xs) := by
 obtain ⟨a, len, cap, V, rfl, hl, hm, hs, hv⟩ := (h.rd_slice Try.underlying22).row Try.underlying22 (by kernel_rfl)
 have hc : ∀ i, i < len → ∃ c : UInt8, V i 0 = B c := by
  intro i hi
  obtain ⟨n, hn, hw⟩ := (hv i (by omega)).int Try.underlying5
  have := wf_u8_iff hw
  refine ⟨byt n, ?_⟩
  rw [hn, ← B_byt, Int.emod_eq_of_lt (by omega) (by omega)]
 obtain ⟨xs, h1, h2⟩ := list_of B (fun i => V i 0) len hc
 have hvw : ∀ w', Seen w' a cap 1 V → By w' a len cap xs := fun w' hs' => ⟨h1.symm, Seen.vw hl hm hs' h1 h2⟩
 exact ⟨a, len, cap, xs, rfl, hvw w hs, fun w' hb => hvw w' (hs.keep hb (Nat.le_refl _))⟩

/-- A slice of numbers that came in. -/
theorem Arg.nums {w : World} {v : Value} (h : Arg Try.prog w 57 v) : ∃ a n cap vs, v = .slice a n cap ∧ Uv w a n cap vs ∧ (∀ w', Below w.heap.size w w' → Uv w' a n cap vs) := by
 obtain ⟨a, len, cap, V, rfl, hl, hm, hs, hv⟩ := (h.rd_slice Try.underlying57).row Try.underlying57 (by kernel_rfl)
 have hc : ∀ i, i < len → ∃ c : { x : Int // 0 ≤ x ∧ x ≤ 18446744073709551615 }, V i 0 = .int .u64 c.1 := by
   intro i hi
   obtain ⟨n, hn, hw⟩ := (hv i (by omega)).int Try.underlying29
   exact ⟨⟨n, wf_u64_iff hw⟩, hn⟩
 obtain ⟨xs, h1, h2⟩ := list_of (fun c : { x : Int // 0 ≤ x ∧ x ≤ 18446744073709551615 } => Value.int .u64 c.1) (fun i => V i 0) len hc
 have hvw : ∀ w', Seen w' a cap 1 V → Uv w' a len cap (xs.map (·.1)) := fun w' hs' => ⟨by simp [h1], by have := Seen.vw (f := fun c : { x : Int // 0 ≤ x ∧ x ≤ 18446744073709551615 } => Value.int .u64 c.1) hl hm hs' h1 h2; rwa [show Us (xs.map (·.1)) = xs.map (fun c => Value.int .u64 c.1) by simp [Us]], fun x hx => by obtain ⟨c, _, rfl⟩ := List.mem_map.1 hx; exact c.2⟩
 exact ⟨a, len, cap, _, rfl, hvw w hs, fun w' hb => hvw w' (hs.keep hb (Nat.le_refl _))⟩

/-- Numbers written and read. -/
theorem numF_bigD (v : Int) : ∀ (k : Nat) (acc : Int), 0 ≤ acc → acc * 2 ^ (8 * k) + 2 ^ (8 * k) ≤ 18446744073709551616 → numF acc (bigD v k) = acc * 2 ^ (8 * k) + v % 2 ^ (8 * k) := by
 intro k
 induction k with
 | zero => intro acc h0 h1; simp [bigD, numF]
 | succ k ih =>
  intro acc h0 h1
  have hp : (0 : Int) < 2 ^ (8 * k) := Int.pow_pos (by omega)
  have hp8 : (2 : Int) ^ (8 * (k + 1)) = 2 ^ (8 * k) * 256 := by rw [Nat.mul_add, Int.pow_add]; rfl
  rw [hp8] at h1 ⊢
  unfold bigD numF
  rw [byt_val, IntKind.wrap_u64]
  have hs : acc * 256 + 256 ≤ 18446744073709551616 := by
   have : (acc * 256 + 256) * 1 ≤ (acc * 256 + 256) * 2 ^ (8 * k) := Int.mul_le_mul_of_nonneg_left (by omega) (by omega)
   have e : (acc * 256 + 256) * 2 ^ (8 * k) = acc * (2 ^ (8 * k) * 256) + 2 ^ (8 * k) * 256 := by rw [Int.add_mul, Int.mul_assoc, Int.mul_comm 256]
   omega
  rw [Int.emod_eq_of_lt (by omega) (by omega)]
  have hm0 : 0 ≤ v / 2 ^ (8 * k) % 256 := Int.emod_nonneg _ (by omega)
  have hm1 : v / 2 ^ (8 * k) % 256 < 256 := Int.emod_lt_of_pos _ (by omega)
  rw [ih _ (by omega) ?_]
  ·have e : v % (2 ^ (8 * k) * 256) = v % 2 ^ (8 * k) + 2 ^ (8 * k) * (v / 2 ^ (8 * k) % 256) := by
    have h1 := Int.mul_ediv_add_emod v (2 ^ (8 * k))
    have h2 := Int.mul_ediv_add_emod (v / 2 ^ (8 * k)) 256
    have hq : v = 2 ^ (8 * k) * 256 * (v / 2 ^ (8 * k) / 256) + (v % 2 ^ (8 * k) + 2 ^ (8 * k) * (v / 2 ^ (8 * k) % 256)) := by
     conv => lhs; rw [← h1, ← h2]
     rw [Int.mul_add, Int.mul_assoc]
     omega
    have hr0 : 0 ≤ v % 2 ^ (8 * k) := Int.emod_nonneg _ (by omega)
    have hr1 : v % 2 ^ (8 * k) < 2 ^ (8 * k) := Int.emod_lt_of_pos _ hp
    have ht : 2 ^ (8 * k) * (v / 2 ^ (8 * k) % 256) ≤ 2 ^ (8 * k) * 255 := Int.mul_le_mul_of_nonneg_left (by omega) (by omega)
    have ht0 : 0 ≤ 2 ^ (8 * k) * (v / 2 ^ (8 * k) % 256) := Int.mul_nonneg (by omega) hm0
    conv => lhs; rw [hq]
    rw [Int.add_comm, Int.add_mul_emod_self_left, Int.emod_eq_of_lt (by omega) (by omega)]
   rw [e, Int.add_mul, Int.mul_assoc, Int.mul_comm 256, Int.mul_comm (v / 2 ^ (8 * k) % 256)]
   omega
  ·have e : (acc * 256 + v / 2 ^ (8 * k) % 256) * 2 ^ (8 * k) + 2 ^ (8 * k) = (acc * 256 + (v / 2 ^ (8 * k) % 256 + 1)) * 2 ^ (8 * k) := by rw [← Int.add_assoc, Int.add_mul (acc * 256 + _) 1, Int.one_mul]
   have : (acc * 256 + (v / 2 ^ (8 * k) % 256 + 1)) * 2 ^ (8 * k) ≤ (acc * 256 + 256) * 2 ^ (8 * k) := Int.mul_le_mul_of_nonneg_right (by omega) (by omega)
   have e2 : (acc * 256 + 256) * 2 ^ (8 * k) = acc * (2 ^ (8 * k) * 256) + 2 ^ (8 * k) * 256 := by rw [Int.add_mul, Int.mul_assoc, Int.mul_comm 256]
   omega

theorem rbV_bigD (v : Int) (k : Nat) (hk : k ≤ 8) (more : List UInt8) : rbV (bigD v k ++ more) k = v % 2 ^ (8 * k) ∧ rbOK (bigD v k ++ more).length k = true := by
 have hok : rbOK (bigD v k ++ more).length k = true := by
  simp only [rbOK, decide_eq_true_eq, List.length_append, bigD_length]
  omega
 refine ⟨?_, hok⟩
 unfold rbV
 rw [hok, if_pos rfl, Int.toNat_natCast, List.take_append_of_le_length (by rw [bigD_length]; omega), List.take_of_length_le (by rw [bigD_length]; omega), numF_bigD v k 0 (by omega) ?_]
 ·simp
 ·rw [Int.zero_mul, Int.zero_add]
  have : 2 ^ (8 * k) ≤ 2 ^ 64 := Nat.pow_le_pow_right (by omega) (by omega)
  have h2 : ((2 ^ (8 * k) : Nat) : Int) ≤ ((2 ^ 64 : Nat) : Int) := by exact_mod_cast this
  rw [cast_two_pow] at h2
  simpa using h2

end Go.Proofs.Ytgfkgmmigbpciaa
