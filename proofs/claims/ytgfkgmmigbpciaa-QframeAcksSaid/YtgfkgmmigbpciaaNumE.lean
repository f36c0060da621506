/- ReadPrefix of the packages num and bifoldref1. -/
import Derived.Test.YtgfkgmmigbpciaaNumD
namespace Go.Proofs.Ytgfkgmmigbpciaa
open Go.RowKit Go.Deep

/-- What bytes behind a prefix read as: the i-th of them next, k of them at most. -/
def rpT : Nat → Int → Nat → List UInt8 → Int × Int × Int
  | 0, _, _, _ => (0, 0, 21)
  | _ + 1, _, _, [] => (0, 0, 20)
  | k + 1, v, i, c :: cs => if (4611686018427387903 - v) / 2 ^ (7 * i) < (c.toNat : Int) % 128 then (0, 0, 21) else if c.toNat < 128 then (v + (c.toNat : Int) % 128 * 2 ^ (7 * i), i + 2, 0) else rpT k (v + (c.toNat : Int) % 128 * 2 ^ (7 * i)) (i + 1) cs
/-- What a prefix' number reads as: the number, how many bytes, the error. -/
def rpR (xs : List UInt8) (n : Int) : Int × Int × Int :=
  match xs with
  | [] => (0, 0, 20)
  | c :: cs => if (c.toNat : Int) % 2 ^ preN n < preM n then ((c.toNat : Int) % 2 ^ preN n, 1, 0) else rpT 10 (preM n) 0 cs

theorem rpT_big {k i : Nat} {V : Int} {xs : List UInt8} (h : i + 1 < xs.length) (hb : (4611686018427387903 - V) / 2 ^ (7 * i) < (xs[i + 1].toNat : Int) % 128) : rpT (k + 1) V i (xs.drop (i + 1)) = (0, 0, 21) := by
  rw [List.drop_eq_getElem_cons h, rpT, if_pos hb]
theorem rpT_end {k i : Nat} {V : Int} {xs : List UInt8} (h : i + 1 < xs.length) (hb : (xs[i + 1].toNat : Int) % 128 ≤ (4611686018427387903 - V) / 2 ^ (7 * i)) (hc : xs[i + 1].toNat < 128) : rpT (k + 1) V i (xs.drop (i + 1)) = (V + (xs[i + 1].toNat : Int) % 128 * 2 ^ (7 * i), (i : Int) + 2, 0) := by
  rw [List.drop_eq_getElem_cons h, rpT, if_neg (by omega), if_pos hc]
theorem rpT_on {k i : Nat} {V : Int} {xs : List UInt8} (h : i + 1 < xs.length) (hb : (xs[i + 1].toNat : Int) % 128 ≤ (4611686018427387903 - V) / 2 ^ (7 * i)) (hc : ¬ xs[i + 1].toNat < 128) : rpT (k + 1) V i (xs.drop (i + 1)) = rpT k (V + (xs[i + 1].toNat : Int) % 128 * 2 ^ (7 * i)) (i + 1) (xs.drop (i + 1 + 1)) := by
  rw [List.drop_eq_getElem_cons h, rpT, if_neg (by omega), if_neg hc]
theorem rpT_nil {k i : Nat} {V : Int} {xs : List UInt8} (h : xs.length ≤ i + 1) : rpT (k + 1) V i (xs.drop (i + 1)) = (0, 0, 20) := by
  rw [List.drop_eq_nil_of_le h, rpT]

/-- The byte's seven bits, as the code has them; what they add. -/
theorem seven_wrap (c : UInt8) : IntKind.u64.wrap (bits .and .u8 (c.toNat : Int) 127) = (c.toNat : Int) % 128 := by
  have hc : c.toNat < 256 := c.toNat_lt
  rw [and8 7 (by omega) (by omega) (by omega) (by simp), IntKind.wrap_u64, show (2 : Int) ^ 7 = 128 by simp]
  omega
theorem and128 (c : UInt8) : (bits .and .u8 (c.toNat : Int) 128 == 0) = true ↔ c.toNat < 128 := by
  have hc : c.toNat < 256 := c.toNat_lt
  have key : ∀ A : Fin 256, A.val &&& 128 = if A.val < 128 then 0 else 128 := by decide +kernel
  have := key ⟨c.toNat, hc⟩
  simp only at this
  rw [show (128 : Int) = ((128 : Nat) : Int) from rfl, u8_and_nat _ 128 hc (by omega), this]
  split <;> simp_all
theorem seven_add {V d : Int} {i : Nat} (hV : 0 ≤ V) (hd : 0 ≤ d) (h : d ≤ (4611686018427387903 - V) / 2 ^ (7 * i)) : 0 ≤ d * 2 ^ (7 * i) ∧ V + d * 2 ^ (7 * i) ≤ 4611686018427387903 ∧ IntKind.u64.wrap (V + IntKind.u64.wrap (d * (2 : Int) ^ (7 * i))) = V + d * 2 ^ (7 * i) := by
  have hp : (0 : Int) < 2 ^ (7 * i) := Int.pow_pos (by omega)
  have h1 : d * 2 ^ (7 * i) ≤ (4611686018427387903 - V) / 2 ^ (7 * i) * 2 ^ (7 * i) := Int.mul_le_mul_of_nonneg_right h (Int.le_of_lt hp)
  have h2 : (4611686018427387903 - V) / 2 ^ (7 * i) * 2 ^ (7 * i) ≤ 4611686018427387903 - V := Int.ediv_mul_le _ (by omega)
  have h3 : 0 ≤ d * 2 ^ (7 * i) := Int.mul_nonneg hd (Int.le_of_lt hp)
  generalize d * 2 ^ (7 * i) = t at *
  refine ⟨h3, by omega, ?_⟩
  rw [IntKind.wrap_u64, IntKind.wrap_u64]
  omega
/-- A byte's part behind the prefix' bits. -/
theorem pre_part (c : UInt8) (n : Int) : bits .and .u64 (c.toNat : Int) (IntKind.u64.wrap (IntKind.u64.wrap ((2 : Int) ^ preN n) - 1)) = (c.toNat : Int) % 2 ^ preN n := by
  have hc : c.toNat < 256 := c.toNat_lt
  rw [preM_wrap]
  exact and64 (preN n) (by omega) (by omega) (by have := (preN_bd n).2; omega) rfl
theorem pre_part_lt (c : UInt8) (n : Int) : 0 ≤ (c.toNat : Int) % 2 ^ preN n ∧ (c.toNat : Int) % 2 ^ preN n ≤ preM n := by
  unfold preM
  rcases preN_cases n with h | h | h | h | h | h | h | h <;> rw [h] <;> simp <;> omega
theorem rpR_one {xs : List UInt8} (n : Int) (h : 0 < xs.length) (hl : (xs[0].toNat : Int) % 2 ^ preN n < preM n) : rpR xs n = ((xs[0].toNat : Int) % 2 ^ preN n, 1, 0) := by
  cases xs with
  | nil => simp at h
  | cons c cs => rw [rpR]; exact if_pos hl
theorem rpR_more {xs : List UInt8} (n : Int) (h : 0 < xs.length) (hl : preM n ≤ (xs[0].toNat : Int) % 2 ^ preN n) : rpT 10 (preM n) 0 (xs.drop 1) = rpR xs n := by
  cases xs with
  | nil => simp at h
  | cons c cs => rw [rpR]; exact (if_neg (by simp only [List.getElem_cons_zero] at hl; omega)).symm

end Go.Proofs.Ytgfkgmmigbpciaa
