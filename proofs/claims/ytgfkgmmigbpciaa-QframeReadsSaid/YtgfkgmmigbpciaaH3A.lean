/- Read of the packages h3frame and bifoldref26. -/
import Derived.Test.YtgfkgmmigbpciaaNumI
namespace Go.Proofs.Ytgfkgmmigbpciaa
set_option linter.unusedSimpArgs false
set_option linter.unusedVariables false
open Go.RowKit Go.Deep

/-- Where v[lo:] of a slice of one-cell elements lies. -/
def offA (a : Option Addr) (cap lo : Nat) : Option Addr := if cap = lo then a else a.map (fun x => x.add lo)
theorem offA_eq (a : Option Addr) (cap lo : Nat) : (if cap = lo then a else a.map (fun x => x.add lo)) = offA a cap lo := rfl

theorem rv_facts (xs : List UInt8) : (rvE xs = 20 ∧ rvL xs = 0 ∧ rvV xs = 0) ∨ (∃ k : Nat, 1 ≤ k ∧ k ≤ 8 ∧ k ≤ xs.length ∧ rvL xs = k ∧ rvE xs = 0 ∧ 0 ≤ rvV xs ∧ rvV xs ≤ 4611686018427387903) := by
 by_cases h : rvHave xs = true
 ·refine .inr ?_
  have hh := h
  simp only [rvHave, decide_eq_true_eq] at hh
  unfold rvL rvE rvV
  rw [h, if_pos rfl, if_pos rfl, if_pos rfl]
  have hlt : (xs.headD 0).toNat < 256 := (xs.headD 0).toNat_lt
  have hb := rbV_bd xs (rvN (xs.headD 0))
  rcases rvN_cases (xs.headD 0) hlt with ⟨_, hn, _⟩ | ⟨_, _, hn, _⟩ | ⟨_, _, hn, _⟩ | ⟨_, hn, _⟩
  ·rw [hn] at hh hb ⊢; rw [rvMask_1]; exact ⟨1, by omega, by omega, by omega, rfl, rfl, by omega, by omega⟩
  ·rw [hn] at hh hb ⊢; rw [rvMask_2]; exact ⟨2, by omega, by omega, by omega, rfl, rfl, by omega, by omega⟩
  ·rw [hn] at hh hb ⊢; rw [rvMask_4]; exact ⟨4, by omega, by omega, by omega, rfl, rfl, by omega, by omega⟩
  ·rw [hn] at hh hb ⊢; rw [rvMask_8]; exact ⟨8, by omega, by omega, by omega, rfl, rfl, by omega, by omega⟩
 ·refine .inl ?_
  unfold rvL rvE rvV
  rw [if_neg h, if_neg h, if_neg h]
  exact ⟨rfl, rfl, rfl⟩

theorem By.alloc {w : World} {a : Option Addr} {n cap : Nat} {xs : List UInt8} (h : By w a n cap xs) (o : Obj) : By (w.alloc o) a n cap xs := ⟨h.1, h.2.alloc o⟩
theorem By.mid {w : World} {a : Option Addr} {n cap : Nat} {xs : List UInt8} (h : By w a n cap xs) (lo hi : Nat) (h1 : lo ≤ hi) (h2 : hi ≤ n) : By w (offA a cap lo) (hi - lo) (cap - lo) ((xs.drop lo).take (hi - lo)) := by
 have := h.sub lo hi h1 h2
 rwa [Nat.mul_one] at this
theorem By.from {w : World} {a : Option Addr} {n cap : Nat} {xs : List UInt8} (h : By w a n cap xs) (lo : Nat) (h2 : lo ≤ n) : By w (offA a cap lo) (n - lo) (cap - lo) (xs.drop lo) := by
 have := h.mid lo n h2 (Nat.le_refl _)
 rwa [List.take_of_length_le (by rw [List.length_drop, h.1]; exact Nat.le_refl _)] at this

end Go.Proofs.Ytgfkgmmigbpciaa
