/- Read of the packages h3frame and bifoldref26. -/
import Derived.Test.YtgfkgmmigbpciaaNumI
namespace Go.Proofs.Ytgfkgmmigbpciaa
open Go.RowKit Go.Deep

/-- Where v[lo:] of a slice of one-cell elements lies. -/
def offA (a : Option Addr) (cap lo : Nat) : Option Addr := if cap = lo then a else a.map (fun x => x.add lo)
theorem offA_eq (a : Option Addr) (cap lo : Nat) : (if cap = lo then a else a.map (fun x => x.add lo)) = offA a cap lo := rfl

theorem rv_facts (xs : List UInt8) : (rvE xs = 20 ∧ rvL xs = 0 ∧ rvV xs = 0) ∨ (∃ k : Nat, 1 ≤ k ∧ k ≤ 8 ∧ k ≤ xs.length ∧ rvL xs = k ∧ rvE xs = 0 ∧ 0 ≤ rvV xs ∧ rvV xs ≤ 4611686018427387903) := by
  by_cases h : rvHave xs = true
  · refine .inr ?_
    have hh := h
    simp only [rvHave, decide_eq_true_eq] at hh
    unfold rvL rvE rvV
    rw [h, if_pos rfl, if_pos rfl, if_pos rfl]
    have hlt : (xs.headD 0).toNat < 256 := (xs.headD 0).toNat_lt
    have hb := rbV_bd xs (rvN (xs.headD 0))
    rcases rvN_cases (xs.headD 0) hlt with ⟨_, hn, _⟩ | ⟨_, _, hn, _⟩ | ⟨_, _, hn, _⟩ | ⟨_, hn, _⟩
    · rw [hn] at hh hb ⊢; rw [rvMask_1]; exact ⟨1, by omega, by omega, by omega, rfl, rfl, by omega, by omega⟩
    · rw [hn] at hh hb ⊢; rw [rvMask_2]; exact ⟨2, by omega, by omega, by omega, rfl, rfl, by omega, by omega⟩
    · rw [hn] at hh hb ⊢; rw [rvMask_4]; exact ⟨4, by omega, by omega, by omega, rfl, rfl, by omega, by omega⟩
    · rw [hn] at hh hb ⊢; rw [rvMask_8]; exact ⟨8, by omega, by omega, by omega, rfl, rfl, by omega, by omega⟩
  · refine .inl ?_
    unfold rvL rvE rvV
    rw [if_neg h, if_neg h, if_neg h]
    exact ⟨rfl, rfl, rfl⟩

theorem By.alloc {w : World} {a : Option Addr} {n cap : Nat} {xs : List UInt8} (h : By w a n cap xs) (o : Obj) : By (w.alloc o) a n cap xs := ⟨h.1, h.2.alloc o⟩
theorem By.mid {w : World} {a : Option Addr} {n cap : Nat} {xs : List UInt8} (h : By w a n cap xs) (lo hi : Nat) (h1 : lo ≤ hi) (h2 : hi ≤ n) : By w (offA a cap lo) (hi - lo) (cap - lo) ((xs.drop lo).take (hi - lo)) := by
  have := h.sub lo hi h1 h2
  rwa [Nat.mul_one] at this
theorem By.from {w : World} {a : Option Addr} {n cap : Nat} {xs : List UInt8} (h : By w a n cap xs) (lo : Nat) (h2 : lo ≤ n) : By w (offA a cap lo) (n - lo) (cap - lo) (xs.drop lo) := by
  have := h.mid lo n h2 (Nat.le_refl _)
  rwa [List.take_of_length_le (by rw [List.length_drop, h.1]; exact Nat.le_refl _)] at this

/-- A frame: type, bytes, how many bytes it takes, the error. -/
def frR (xs : List UInt8) : Int × List UInt8 × Int × Int :=
  if rvE xs ≠ 0 then (0, [], 0, rvE xs)
  else if rvE (xs.drop (rvL xs).toNat) ≠ 0 then (0, [], 0, rvE (xs.drop (rvL xs).toNat))
  else if 16384 < rvV (xs.drop (rvL xs).toNat) then (0, [], 0, 23)
  else if (xs.length : Int) - (rvL xs + rvL (xs.drop (rvL xs).toNat)) < rvV (xs.drop (rvL xs).toNat) then (0, [], 0, 20)
  else (rvV xs, (xs.drop (rvL xs + rvL (xs.drop (rvL xs).toNat)).toNat).take (rvV (xs.drop (rvL xs).toNat)).toNat, rvL xs + rvL (xs.drop (rvL xs).toNat) + rvV (xs.drop (rvL xs).toNat), 0)

theorem frR_1 {xs : List UInt8} (h : rvE xs = 20) : frR xs = (0, [], 0, 20) := by unfold frR; rw [h, if_pos (by decide)]
theorem frR_2 {xs ys : List UInt8} {k : Nat} (h1 : rvE xs = 0) (h2 : rvL xs = k) (hy : xs.drop k = ys) (h3 : rvE ys = 20) : frR xs = (0, [], 0, 20) := by
  unfold frR; rw [h1, h2, Int.toNat_natCast, hy, h3, if_neg (by decide), if_pos (by decide)]
theorem frR_3 {xs ys : List UInt8} {k j n : Nat} (h1 : rvE xs = 0) (h2 : rvL xs = k) (hy : xs.drop k = ys) (h3 : rvE ys = 0) (h5 : rvV ys = n) (hb : (16384 : Int) < n) (_ : rvL ys = j) : frR xs = (0, [], 0, 23) := by
  unfold frR; rw [h1, h2, Int.toNat_natCast, hy, h3, h5, if_neg (by decide), if_neg (by decide), if_pos hb]
theorem frR_4 {xs ys : List UInt8} {k j n : Nat} (h1 : rvE xs = 0) (h2 : rvL xs = k) (hy : xs.drop k = ys) (h3 : rvE ys = 0) (h5 : rvV ys = n) (hb : ¬ (16384 : Int) < n) (h4 : rvL ys = j) (hm : (xs.length : Int) - (k + j) < n) : frR xs = (0, [], 0, 20) := by
  unfold frR; rw [h1, h2, Int.toNat_natCast, hy, h3, h4, h5, if_neg (by decide), if_neg (by decide), if_neg hb, if_pos hm]
theorem frR_5 {xs ys : List UInt8} {k j n : Nat} (h1 : rvE xs = 0) (h2 : rvL xs = k) (hy : xs.drop k = ys) (h3 : rvE ys = 0) (h5 : rvV ys = n) (hb : ¬ (16384 : Int) < n) (h4 : rvL ys = j) (hm : ¬ (xs.length : Int) - (k + j) < n) : frR xs = (rvV xs, (xs.drop (k + j)).take n, (k : Int) + j + n, 0) := by
  unfold frR
  rw [h1, h2, Int.toNat_natCast, hy, h3, h4, h5, if_neg (by decide), if_neg (by decide), if_neg hb, if_neg hm, show ((k : Int) + (j : Int)).toNat = k + j by omega, Int.toNat_natCast]

end Go.Proofs.Ytgfkgmmigbpciaa
