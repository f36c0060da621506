/- Pto of both packages; the chapter's example. -/
import Derived.Test.YtnegiagooahncaaCongC
namespace Go.Proofs.Ytnegiagooahncaa
open Go.RowKit

def minK (k x : Int) : Int := if k < x then k else x
def ptoV (b : Int) : Int := if (4 * minK 1099511627776 b) < 1 then 1 else 4 * minK 1099511627776 b
def ptoN (t : Int) : Int := if 6 < (if t < 0 then 0 else t) then 6 else if t < 0 then 0 else t
def ptoG (a b t : Int) : Int := minK 1099511627776 (IntKind.u64.wrap ((minK 1099511627776 a + ptoV b + 25) * 2 ^ (ptoN t).toNat))

set_option maxHeartbeats 400000 in
theorem pto_any (a b t : Int) (w : World) (ha : 0 ≤ a) (hb : 0 ≤ b) :
    Calls Try.prog 9 #[.int .u64 a, .int .u64 b, .int .i64 t] w fun e w' => e = .returned (.int .u64 (ptoG a b t)) ∧ w = w' := by
  go_enter Try.func9, Try.ntmps9
  go_wp2_with (go_ret; exact ⟨rfl, rfl⟩)

set_option maxHeartbeats 400000 in
theorem ptor_any (a b t : Int) (w : World) (ha : 0 ≤ a) (hb : 0 ≤ b) :
    Calls Try.prog 10 #[.int .u64 a, .int .u64 b, .int .i64 t] w fun e w' => e = .returned (.int .u64 (ptoG a b t)) ∧ w = w' := by
  have e4 : minK 1099511627776 b * 4 = 4 * minK 1099511627776 b := Int.mul_comm _ _
  have hm : 0 ≤ minK 1099511627776 b := by unfold minK; split <;> omega
  have hm0 : b = 0 → minK 1099511627776 b = 0 := by intro h; subst h; rfl
  have hm1 : 0 < b → 0 < minK 1099511627776 b := by intro h; unfold minK; split <;> omega
  have E1 : Hid (0 < b → ptoV b = minK 1099511627776 b * 4) := by
    show 0 < b → _
    intro h; have := hm1 h; unfold ptoV; rw [if_neg (by omega), e4]
  have E0 : Hid (b ≤ 0 → ptoV b = 1) := by
    show b ≤ 0 → _
    intro h; have := hm0 (by omega); unfold ptoV; rw [if_pos (by omega)]
  clear e4 hm hm0 hm1
  go_enter Try.func10, Try.ntmps10
  by_cases h0 : 0 < b
  · go_wp2_with (go_ret; refine ⟨?_, rfl⟩; unfold ptoG; rw [E1.out h0]; rfl)
  · go_wp2_with (go_ret; refine ⟨?_, rfl⟩; unfold ptoG; rw [E0.out (by omega)]; rfl)

theorem pto_le (a b t : Int) : ptoG a b t ≤ 1099511627776 := by
  unfold ptoG minK
  split <;> omega

set_option maxHeartbeats 400000 in
theorem known_any (w : World) :
    Calls Try.prog 8 #[] w fun e w' => e = .returned (.bool true) ∧ Below w.heap.size w w' := by
  go_enter Try.func8, Try.ntmps8
  go_wp2_with fail
  refine (new_any 1200 _ (by omega) (by omega)).mono ?_
  rintro e w1 ⟨rfl, hw1⟩
  have hb := Blk.new w (cgNew 1200).cells 47
  have hk : Below w.heap.size w w1 := by rw [hw1]; exact (Below.refl _ _).alloc (Nat.le_refl _) _
  rw [← hw1] at hb
  clear hw1
  have c1 : cgNew 1200 = ⟨1200, 12000, 1073741824, 0, false, 0⟩ := rfl
  rw [c1] at hb
  clear c1
  go_wp2_with fail
  refine (window_any _ _ _ hb).mono ?_
  rintro e w' ⟨rfl, rfl⟩
  go_wp2_with fail
  refine (acked_any _ _ 1000 1 _ hb (by decide) (by omega) (by omega)).mono ?_
  rintro e w2 ⟨rfl, hb2, hk2⟩
  have c2 : CG.acked ⟨1200, 12000, 1073741824, 0, false, 0⟩ 1000 1 = ⟨1200, 13000, 1073741824, 0, false, 0⟩ := by decide
  rw [c2] at hb2
  replace hk2 := Keeps.below hk hk2 hk.size (by intro k h; exact Nat.le_of_eq h.symm)
  clear c2 hb hk
  go_wp2_with fail
  refine (window_any _ _ _ hb2).mono ?_
  rintro e w' ⟨rfl, rfl⟩
  go_wp2_with fail
  refine (lost_any _ _ 2 5 _ hb2 (by decide)).mono ?_
  rintro e w3 ⟨rfl, hb3, hk3⟩
  have c3 : CG.lost ⟨1200, 13000, 1073741824, 0, false, 0⟩ 2 5 = ⟨1200, 6500, 6500, 0, true, 5⟩ := by decide
  rw [c3] at hb3
  replace hk3 := Keeps.below hk2 hk3 hk2.size (by intro k h; exact Nat.le_of_eq h.symm)
  clear c3 hb2 hk2
  go_wp2_with fail
  refine (window_any _ _ _ hb3).mono ?_
  rintro e w' ⟨rfl, rfl⟩
  go_wp2_with fail
  refine (acked_any _ _ 1000 4 _ hb3 (by decide) (by omega) (by omega)).mono ?_
  rintro e w4 ⟨rfl, hb4, hk4⟩
  have c4 : CG.acked ⟨1200, 6500, 6500, 0, true, 5⟩ 1000 4 = ⟨1200, 6500, 6500, 0, true, 5⟩ := by decide
  rw [c4] at hb4
  replace hk4 := Keeps.below hk3 hk4 hk3.size (by intro k h; exact Nat.le_of_eq h.symm)
  clear c4 hb3 hk3
  go_wp2_with fail
  refine (window_any _ _ _ hb4).mono ?_
  rintro e w' ⟨rfl, rfl⟩
  go_wp2_with fail
  refine (may_any _ _ 0 9999 _ hb4 (by decide)).mono ?_
  rintro e w' ⟨rfl, rfl⟩
  have m1 : CG.may ⟨1200, 6500, 6500, 0, true, 5⟩ 0 9999 = true := by decide
  rw [m1]
  go_wp2_with fail
  refine (may_any _ _ 6000 501 _ hb4 (by decide)).mono ?_
  rintro e w' ⟨rfl, rfl⟩
  have m2 : CG.may ⟨1200, 6500, 6500, 0, true, 5⟩ 6000 501 = false := by decide
  rw [m2]
  go_wp2_with fail
  refine (pto_any 10 5 1 _ (by omega) (by omega)).mono ?_
  rintro e w' ⟨rfl, rfl⟩
  have m3 : ptoG 10 5 1 = 110 := by decide
  rw [m3]
  clear m1 m2 m3
  go_wp2
  go_returns
  exact ⟨rfl, hk4⟩

end Go.Proofs.Ytnegiagooahncaa
