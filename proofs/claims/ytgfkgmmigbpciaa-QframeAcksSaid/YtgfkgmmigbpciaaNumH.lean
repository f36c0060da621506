/- Prefixes written and read: the plain law; slices cut. -/
import Derived.Test.YtgfkgmmigbpciaaNumG
namespace Go.Proofs.Ytgfkgmmigbpciaa
open Go.RowKit Go.Deep

theorem By.cut {w : World} {a : Option Addr} {n cap : Nat} {xs : List UInt8} (h : By w a n cap xs) : By w a n n xs := ⟨h.1, Nat.le_refl _, Nat.le_trans h.2.le h.2.max, h.2.len, h.2.at_⟩
theorem By.tail {w : World} {a : Option Addr} {l m cap : Nat} {xs ys : List UInt8} (h : By w a l cap (xs ++ ys)) (hm : m = xs.length) : By w (if cap = m then a else a.map (·.add (m * 1))) (l - m) (cap - m) ys := by
  have hl := h.1
  simp at hl
  have := h.sub m l (by omega) (Nat.le_refl _)
  have e2 : ((xs ++ ys).drop m).take (l - m) = ys := by
    subst hm
    rw [List.drop_left, List.take_of_length_le (by omega)]
  rwa [e2] at this

theorem preT_pos (k : Nat) (x : Int) : 0 < (preT (k + 1) x).length := by unfold preT; split <;> simp

/-- What stands behind a prefix, read. -/
theorem rpT_preT (v : Int) (more : List UInt8) : ∀ (k i : Nat) (V x : Int), k + 1 + i ≤ 10 → 0 ≤ V → V ≤ 4611686018427387903 → 0 ≤ x → x < 128 ^ (k + 1) → V + x * 2 ^ (7 * i) = v →
    rpT (k + 1) V i (preT (k + 1) x ++ more) = if v ≤ 4611686018427387903 then (v, (i : Int) + 1 + (preT (k + 1) x).length, 0) else (0, 0, 21) := by
  intro k
  induction k with
  | zero =>
    intro i V x hi h0 h1 h2 h3 h4
    rw [Int.pow_succ, Int.pow_zero] at h3
    have hp : (0 : Int) < 2 ^ (7 * i) := Int.pow_pos (by omega)
    rw [preT_small 0 x (by omega)]
    simp only [List.singleton_append, rpT, byt_val]
    have e1 : x % 256 % 128 = x := by omega
    have e2 : (byt x).toNat < 128 := by have := byt_val x; omega
    rw [e1, if_pos e2]
    by_cases hb : (4611686018427387903 - V) / 2 ^ (7 * i) < x
    · have := Int.lt_mul_of_ediv_lt hp hb
      rw [if_pos hb, if_neg (by omega)]
    · have := Int.le_ediv_iff_mul_le hp |>.1 (Int.not_lt.1 hb)
      rw [if_neg hb, if_pos (by omega), h4]
      simp
      omega
  | succ k ih =>
    intro i V x hi h0 h1 h2 h3 h4
    have hp : (0 : Int) < 2 ^ (7 * i) := Int.pow_pos (by omega)
    by_cases hx : x < 128
    · rw [preT_small (k + 1) x hx]
      simp only [List.singleton_append, rpT, byt_val]
      have e1 : x % 256 % 128 = x := by omega
      have e2 : (byt x).toNat < 128 := by have := byt_val x; omega
      rw [e1, if_pos e2]
      by_cases hb : (4611686018427387903 - V) / 2 ^ (7 * i) < x
      · have := Int.lt_mul_of_ediv_lt hp hb
        rw [if_pos hb, if_neg (by omega)]
      · have := Int.le_ediv_iff_mul_le hp |>.1 (Int.not_lt.1 hb)
        rw [if_neg hb, if_pos (by omega), h4]
        simp
        omega
    · rw [preT_big (k + 1) x (by omega)]
      simp only [List.cons_append]
      rw [rpT, byt_val]
      have e1 : (x % 128 + 128) % 256 % 128 = x % 128 := by omega
      have e2 : ¬ (byt (x % 128 + 128)).toNat < 128 := by have := byt_val (x % 128 + 128); omega
      rw [e1, if_neg e2]
      have hxm : x % 128 * 2 ^ (7 * i) ≤ x * 2 ^ (7 * i) := Int.mul_le_mul_of_nonneg_right (by omega) (by omega)
      have hxp : 0 ≤ x % 128 * 2 ^ (7 * i) := Int.mul_nonneg (by omega) (by omega)
      have hsum : V + x % 128 * 2 ^ (7 * i) + x / 128 * 2 ^ (7 * (i + 1)) = v := by
        rw [← h4, Nat.mul_add, Int.pow_add, Int.add_assoc]
        congr 1
        have e : x * 2 ^ (7 * i) = (x % 128 + 128 * (x / 128)) * 2 ^ (7 * i) := by rw [Int.emod_add_mul_ediv]
        rw [e, Int.add_mul, show ((2 : Int) ^ (7 * 1)) = 128 by rfl]
        congr 1
        rw [Int.mul_comm 128, Int.mul_assoc, Int.mul_comm 128]
      by_cases hb : (4611686018427387903 - V) / 2 ^ (7 * i) < x % 128
      · have := Int.lt_mul_of_ediv_lt hp hb
        rw [if_pos hb, if_neg (by omega)]
      · have := Int.le_ediv_iff_mul_le hp |>.1 (Int.not_lt.1 hb)
        rw [if_neg hb, ih (i + 1) _ (x / 128) (by omega) (by omega) (by omega) (by omega) (Int.ediv_lt_of_lt_mul (by omega) (by rw [Int.pow_succ] at h3; exact h3)) hsum]
        split
        · simp
          omega
        · rfl

theorem rpR_preE (first n v : Int) (hf0 : 0 ≤ first) (hf1 : first < 256) (hv0 : 0 ≤ v) (hv1 : v ≤ 18446744073709551615) (more : List UInt8) :
    rpR (preE first n v ++ more) n = if v ≤ 4611686018427387903 then (v, ((preE first n v).length : Int), 0) else (0, 0, 21) := by
  obtain ⟨t0, t1, t2⟩ := preTop_bd first n hf0 hf1
  have hm := preM_bd n
  have hpart : ∀ x : Int, 0 ≤ x → x ≤ preM n → ((byt (preTop first n + x)).toNat : Int) % 2 ^ preN n = x := by
    intro x h0 h1
    rw [byt_val, Int.emod_eq_of_lt (a := preTop first n + x) (b := 256) (by omega) (by omega), Int.add_emod, t2, Int.zero_add, Int.emod_emod]
    exact Int.emod_eq_of_lt h0 (by unfold preM at h1; omega)
  unfold preE
  by_cases h : v < preM n
  · rw [if_pos h]
    simp only [List.singleton_append, rpR]
    rw [hpart v hv0 (by omega), if_pos h, if_pos (by omega)]
    simp
  · rw [if_neg h]
    simp only [List.cons_append, rpR]
    rw [hpart (preM n) (by omega) (Int.le_refl _), if_neg (by omega), rpT_preT v more 9 0 (preM n) (v - preM n) (by omega) (by omega) (by omega) (by omega) (by simp; omega) (by simp; omega)]
    split
    · simp
      omega
    · rfl

end Go.Proofs.Ytgfkgmmigbpciaa
