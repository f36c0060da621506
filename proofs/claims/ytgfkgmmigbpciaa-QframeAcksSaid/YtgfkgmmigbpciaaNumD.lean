/- bitsOf and Prefix of the packages num and bifoldref1. -/
import Derived.Test.YtgfkgmmigbpciaaNumC
namespace Go.Proofs.Ytgfkgmmigbpciaa
open Go.RowKit Go.Deep

/-- The bits of a prefix. -/
def atl1 (n : Int) : Int := if n < 1 then 1 else n
theorem atl1_eq (n : Int) : (if n < 1 then 1 else n) = atl1 n := rfl
def preN (n : Int) : Nat := (if 8 < atl1 n then 8 else atl1 n).toNat
theorem preN_bd (n : Int) : 1 ≤ preN n ∧ preN n ≤ 8 := by unfold preN atl1; constructor <;> (repeat' split) <;> omega
theorem preN_val (n : Int) : (if 8 < atl1 n then 8 else atl1 n) = ((preN n : Nat) : Int) := by unfold preN atl1; (repeat' split) <;> omega

/-- The greatest number that a prefix' bits hold. -/
def preM (n : Int) : Int := 2 ^ preN n - 1
def preTop (first n : Int) : Int := first - first % 2 ^ preN n

theorem preN_cases (n : Int) : preN n = 1 ∨ preN n = 2 ∨ preN n = 3 ∨ preN n = 4 ∨ preN n = 5 ∨ preN n = 6 ∨ preN n = 7 ∨ preN n = 8 := by
  have := preN_bd n
  omega

theorem preM_bd (n : Int) : 1 ≤ preM n ∧ preM n ≤ 255 := by
  unfold preM
  rcases preN_cases n with h | h | h | h | h | h | h | h <;> rw [h] <;> simp

/-- The mask, as the code has it. -/
theorem preM_wrap (n : Int) : IntKind.u64.wrap (IntKind.u64.wrap ((2 : Int) ^ preN n) - 1) = preM n := by
  unfold preM
  rw [IntKind.wrap_u64, IntKind.wrap_u64]
  rcases preN_cases n with h | h | h | h | h | h | h | h <;> rw [h] <;> simp

theorem preTop_bd (first n : Int) (h0 : 0 ≤ first) (h1 : first < 256) : 0 ≤ preTop first n ∧ preTop first n + preM n < 256 ∧ preTop first n % 2 ^ preN n = 0 := by
  unfold preTop preM
  rcases preN_cases n with h | h | h | h | h | h | h | h <;> rw [h] <;> simp <;> omega

theorem preTop_and (first n : Int) (h0 : 0 ≤ first) (h1 : first < 256) : bits .andNot .u8 first (preM n % 256) = preTop first n := by
  have := preM_bd n
  rw [Int.emod_eq_of_lt (by omega) (by omega)]
  exact andNot8 (preN n) (preN_bd n).2 h0 h1 rfl

theorem pre_first (first n x : Int) (h0 : 0 ≤ first) (h1 : first < 256) (hx0 : 0 ≤ x) (hx : x ≤ preM n) : Value.int .u8 (bits .or .u8 (bits .andNot .u8 first (IntKind.u64.wrap (IntKind.u64.wrap ((2 : Int) ^ preN n) - 1) % 256)) (x % 256)) = B (byt (preTop first n + x)) := by
  have hm := preM_bd n
  obtain ⟨t0, t1, t2⟩ := preTop_bd first n h0 h1
  rw [preM_wrap, preTop_and first n h0 h1, Int.emod_eq_of_lt hx0 (by omega), ← B_byt, or8 (preN n) t0 (by omega) t2 hx0 (by unfold preM at hx; omega) (by omega), Int.emod_eq_of_lt (by omega) (by omega)]

/-- What stands behind a prefix. -/
def preT : Nat → Int → List UInt8
  | 0, _ => []
  | k + 1, x => if x < 128 then [byt x] else byt (x % 128 + 128) :: preT k (x / 128)
theorem preT_small (g : Nat) (x : Int) (h : x < 128) : preT (g + 1) x = [byt x] := by unfold preT; rw [if_pos h]
theorem preT_big (g : Nat) (x : Int) (h : 128 ≤ x) : preT (g + 1) x = byt (x % 128 + 128) :: preT g (x / 128) := by rw [preT, if_neg (by omega)]
def preE (first n v : Int) : List UInt8 := if v < preM n then [byt (preTop first n + v)] else byt (preTop first n + preM n) :: preT 10 (v - preM n)

theorem or128 (y : Int) (h0 : 0 ≤ y) (h1 : y < 256) : bits .or .u8 y 128 = y % 128 + 128 := by
  obtain ⟨A, rfl⟩ := Int.eq_ofNat_of_zero_le h0
  have key : ∀ A : Fin 256, A.val ||| 128 = A.val % 128 + 128 := by decide +kernel
  have := key ⟨A, by omega⟩
  simp only at this
  rw [show (128 : Int) = ((128 : Nat) : Int) from rfl, u8_or_nat A 128 (by omega) (by omega), this]
  simp
theorem pre_more (x : Int) : Value.int .u8 (bits .or .u8 (x % 256) 128) = B (byt (x % 128 + 128)) := by
  have h0 : 0 ≤ x % 256 := Int.emod_nonneg _ (by omega)
  rw [or128 _ h0 (by omega), ← B_byt]
  congr 1
  omega
theorem pre_morer (x : Int) (h0 : 0 ≤ x) (h1 : x < 18446744073709551616) : Value.int .u8 (bits .or .u8 (bits .and .u64 x 127 % 256) 128) = B (byt (x % 128 + 128)) := by
  rw [and64 7 h0 h1 (by omega) (by simp), show (2 : Int) ^ 7 = 128 by simp, or128 _ (by omega) (by omega), ← B_byt]
  congr 1
  omega

end Go.Proofs.Ytgfkgmmigbpciaa
