/- ReadVar of the packages num and bifoldref1. -/
import Derived.Test.YtcfljnlfikkhaaaNumB
namespace Go.Proofs.Ytcfljnlfikkhaaa
open Go.RowKit Go.Deep

/-- What a varint reads as. -/
def rvN (c : UInt8) : Int := if c.toNat < 64 then 1 else if c.toNat < 128 then 2 else if c.toNat < 192 then 4 else 8
def rvMask (n : Int) : Int := if n = 1 then 64 else if n = 2 then 16384 else if n = 4 then 1073741824 else 4611686018427387904
theorem rvMask_1 : rvMask 1 = 64 := by unfold rvMask; simp
theorem rvMask_2 : rvMask 2 = 16384 := by unfold rvMask; simp
theorem rvMask_4 : rvMask 4 = 1073741824 := by unfold rvMask; simp
theorem rvMask_8 : rvMask 8 = 4611686018427387904 := by unfold rvMask; simp
def rvHave (xs : List UInt8) : Bool := decide (0 < xs.length ∧ rvN (xs.headD 0) ≤ xs.length)
def rvV (xs : List UInt8) : Int := if rvHave xs then rbV xs (rvN (xs.headD 0)) % rvMask (rvN (xs.headD 0)) else 0
def rvL (xs : List UInt8) : Int := if rvHave xs then rvN (xs.headD 0) else 0
def rvE (xs : List UInt8) : Int := if rvHave xs then 0 else 20

theorem rvN_cases (c : UInt8) (h : c.toNat < 256) : (c.toNat < 64 ∧ rvN c = 1 ∧ (c.toNat : Int) / 64 = 0) ∨ (64 ≤ c.toNat ∧ c.toNat < 128 ∧ rvN c = 2 ∧ (c.toNat : Int) / 64 = 1) ∨ (128 ≤ c.toNat ∧ c.toNat < 192 ∧ rvN c = 4 ∧ (c.toNat : Int) / 64 = 2) ∨ (192 ≤ c.toNat ∧ rvN c = 8 ∧ (c.toNat : Int) / 64 = 3) := by
  by_cases h1 : c.toNat < 64
  · exact .inl ⟨h1, by unfold rvN; rw [if_pos h1], by omega⟩
  · by_cases h2 : c.toNat < 128
    · exact .inr (.inl ⟨by omega, h2, by unfold rvN; rw [if_neg h1, if_pos h2], by omega⟩)
    · by_cases h3 : c.toNat < 192
      · exact .inr (.inr (.inl ⟨by omega, h3, by unfold rvN; rw [if_neg h1, if_neg h2, if_pos h3], by omega⟩))
      · exact .inr (.inr (.inr ⟨by omega, by unfold rvN; rw [if_neg h1, if_neg h2, if_neg h3], by omega⟩))

theorem numF_bd : ∀ (xs : List UInt8) (a : Int), 0 ≤ a → a < 18446744073709551616 → 0 ≤ numF a xs ∧ numF a xs < 18446744073709551616 := by
  intro xs
  induction xs with
  | nil => intro a h0 h1; exact ⟨h0, h1⟩
  | cons c cs ih =>
    intro a h0 h1
    have hw : IntKind.u64.wrap (a * 256) = a * 256 % 18446744073709551616 := IntKind.wrap_u64 _
    have hc : c.toNat < 256 := c.toNat_lt
    unfold numF
    rw [hw]
    exact ih _ (by omega) (by omega)
theorem rbV_bd (xs : List UInt8) (n : Int) : 0 ≤ rbV xs n ∧ rbV xs n < 18446744073709551616 := by
  unfold rbV
  split
  · exact numF_bd _ 0 (by omega) (by omega)
  · omega

end Go.Proofs.Ytcfljnlfikkhaaa
