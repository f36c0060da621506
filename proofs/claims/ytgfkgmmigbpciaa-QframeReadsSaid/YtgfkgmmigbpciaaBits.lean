/- Bits of numbers: joined, masked, struck, as sums and remainders. No program in sight. -/
import Derived.Test.YtgfkgmmigbpciaaB
import Derived.Laws.BitsAllLaws
namespace Go.Proofs.Ytgfkgmmigbpciaa
set_option linter.unusedSimpArgs false
set_option linter.unusedVariables false
open Go.RowKit

theorem cast_two_pow (i : Nat) : ((2 ^ i : Nat) : Int) = (2 : Int) ^ i := by simp

theorem or64 (i : Nat) {a b : Int} (h0 : 0 ≤ a) (h1 : a < 18446744073709551616) (h2 : a % 2 ^ i = 0) (h3 : 0 ≤ b) (h4 : b < 2 ^ i) (h5 : b < 18446744073709551616) : bits .or .u64 a b = a + b := by
 obtain ⟨A, rfl⟩ := Int.eq_ofNat_of_zero_le h0
 obtain ⟨C, rfl⟩ := Int.eq_ofNat_of_zero_le h3
 rw [u64_or_nat A C (by omega) (by omega), nat_join i A C ?_ ?_]
 ·simp
 ·have : ((A % 2 ^ i : Nat) : Int) = 0 := by rw [Int.natCast_emod, cast_two_pow]; exact h2
  exact_mod_cast this
 ·have : ((C : Nat) : Int) < ((2 ^ i : Nat) : Int) := by rw [cast_two_pow]; exact h4
  exact_mod_cast this

theorem and64 (i : Nat) {a m : Int} (h0 : 0 ≤ a) (h1 : a < 18446744073709551616) (hi : i ≤ 64) (hm : m = 2 ^ i - 1) : bits .and .u64 a m = a % 2 ^ i := by
 obtain ⟨A, rfl⟩ := Int.eq_ofNat_of_zero_le h0
 have hp : 2 ^ i ≤ 2 ^ 64 := Nat.pow_le_pow_right (by omega) hi
 have hp0 : 0 < 2 ^ i := Nat.two_pow_pos i
 have e : m = ((2 ^ i - 1 : Nat) : Int) := by rw [hm, Int.natCast_sub hp0, cast_two_pow]; rfl
 rw [e, u64_and_nat A _ (by omega) (by omega), Nat.and_two_pow_sub_one_eq_mod, Int.natCast_emod, cast_two_pow]

theorem or8 (i : Nat) {a b : Int} (h0 : 0 ≤ a) (h1 : a < 256) (h2 : a % 2 ^ i = 0) (h3 : 0 ≤ b) (h4 : b < 2 ^ i) (h5 : b < 256) : bits .or .u8 a b = a + b := by
 obtain ⟨A, rfl⟩ := Int.eq_ofNat_of_zero_le h0
 obtain ⟨C, rfl⟩ := Int.eq_ofNat_of_zero_le h3
 rw [u8_or_nat A C (by omega) (by omega), nat_join i A C ?_ ?_]
 ·simp
 ·have : ((A % 2 ^ i : Nat) : Int) = 0 := by rw [Int.natCast_emod, cast_two_pow]; exact h2
  exact_mod_cast this
 ·have : ((C : Nat) : Int) < ((2 ^ i : Nat) : Int) := by rw [cast_two_pow]; exact h4
  exact_mod_cast this

end Go.Proofs.Ytgfkgmmigbpciaa
