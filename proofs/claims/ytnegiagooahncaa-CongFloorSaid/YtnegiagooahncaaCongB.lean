/- Lost, Collapse, May of both packages. -/
import Derived.Test.YtnegiagooahncaaCongA
import Derived.Deep.QuietTactic
import Derived.BigQuiet
namespace Go.Proofs.Ytnegiagooahncaa
open Go.RowKit

def CG.lost (c : CG) (a now : Int) : CG :=
  if c.early a then c else ⟨c.s, if c.W / 2 < 2 * c.s then 2 * c.s else c.W / 2, if c.W / 2 < 2 * c.s then 2 * c.s else c.W / 2, 0, true, now⟩

theorem CG.lost_ok {c : CG} (h : c.ok) (a now : Int) (h0 : 0 ≤ now) (h1 : now < 18446744073709551616) : (c.lost a now).ok := by
  unfold CG.lost
  split
  · exact h
  · unfold CG.ok at *
    simp only
    split <;> omega

set_option maxHeartbeats 400000 in
theorem lost_any (b : Nat) (c : CG) (a now : Int) (w : World) (hb : Blk w b c.cells 47) (hc : c.ok) :
    Calls Try.prog 12 #[.pointer (some ⟨b, 0, none⟩), .int .u64 a, .int .u64 now] w fun e w' => e = .returned (.tuple #[]) ∧ Blk w' b (c.lost a now).cells 47 ∧ Keeps (fun k => k = b) w w' := by
  obtain ⟨⟨h0, h1, h2, h3, h4, h5⟩, hf⟩ := cells_of hb
  have HB := Lib.hid hb
  obtain ⟨hc0, hc1, hc2, hc3, hc4, hc5, hc6, hc7⟩ := hc
  clear hb
  cases he : c.early a
  · have HE := Lib.hid he
    clear he
    go_enter Try.func12, Try.ntmps12
    go_wp2_with (first | (go_at_call 22; refine (early_any _ c _ _ HB.out).mono ?_; rintro e w' ⟨rfl, rfl⟩; rw [HE.out]) | go_region)
    all_goals
      go_returns
      refine ⟨rfl, ?_, by repeat (first | (with_reducible exact Keeps.refl _ _) | (with_reducible refine Keeps.drew ?_) | (with_reducible refine Keeps.put ?_ _ _))⟩
      apply Blk.as
      · repeat (first | (with_reducible exact HB.out) | (with_reducible apply Blk.drew) | (with_reducible apply Blk.set))
      · simp [CG.cells, CG.lost, HE.out] <;> omega
  · have HE := Lib.hid he
    clear he
    go_enter Try.func12, Try.ntmps12
    go_wp2_with (first | (go_at_call 22; refine (early_any _ c _ _ HB.out).mono ?_; rintro e w' ⟨rfl, rfl⟩; rw [HE.out]) | go_region | (go_returns; exact ⟨rfl, by simp only [CG.lost, HE.out, if_true]; exact HB.out, Keeps.refl _ _⟩))

set_option maxHeartbeats 400000 in
theorem lostr_any (b : Nat) (c : CG) (a now : Int) (w : World) (hb : Blk w b c.cells 40) (hc : c.ok) :
    Calls Try.prog 16 #[.pointer (some ⟨b, 0, none⟩), .int .u64 a, .int .u64 now] w fun e w' => e = .returned (.tuple #[]) ∧ Blk w' b (c.lost a now).cells 40 ∧ Keeps (fun k => k = b) w w' := by
  obtain ⟨⟨h0, h1, h2, h3, h4, h5⟩, hf⟩ := cells_of hb
  have HB := Lib.hid hb
  obtain ⟨hc0, hc1, hc2, hc3, hc4, hc5, hc6, hc7⟩ := hc
  clear hb
  cases hR : c.R
  · have HE : Hid (c.early a = false) := by show c.early a = false; simp [CG.early, hR]
    rw [hR] at h4
    clear hR
    go_enter Try.func16, Try.ntmps16
    go_wp2_with (first | go_region)
    all_goals
      go_returns
      refine ⟨rfl, ?_, by repeat (first | (with_reducible exact Keeps.refl _ _) | (with_reducible refine Keeps.drew ?_) | (with_reducible refine Keeps.put ?_ _ _))⟩
      apply Blk.as
      · repeat (first | (with_reducible exact HB.out) | (with_reducible apply Blk.drew) | (with_reducible apply Blk.set))
      · simp [CG.cells, CG.lost, HE.out] <;> omega
  · by_cases hS : a ≤ c.S
    · have HE : Hid (c.early a = true) := by show c.early a = true; simp [CG.early, hR, hS]
      rw [hR] at h4
      clear hR
      go_enter Try.func16, Try.ntmps16
      go_wp2_with (first | go_region | (go_returns; exact ⟨rfl, by simp only [CG.lost, HE.out, if_true]; exact HB.out, by repeat (first | (with_reducible exact Keeps.refl _ _) | (with_reducible refine Keeps.drew ?_))⟩))
    · have HE : Hid (c.early a = false) := by show c.early a = false; simp [CG.early, hR]; omega
      rw [hR] at h4
      clear hR
      go_enter Try.func16, Try.ntmps16
      go_wp2_with (first | go_region)
      all_goals
        go_returns
        refine ⟨rfl, ?_, by repeat (first | (with_reducible exact Keeps.refl _ _) | (with_reducible refine Keeps.drew ?_) | (with_reducible refine Keeps.put ?_ _ _))⟩
        apply Blk.as
        · repeat (first | (with_reducible exact HB.out) | (with_reducible apply Blk.drew) | (with_reducible apply Blk.set))
        · simp [CG.cells, CG.lost, HE.out] <;> omega

def CG.collapse (c : CG) : CG := ⟨c.s, 2 * c.s, c.T, c.G, false, c.S⟩

theorem CG.collapse_ok {c : CG} (h : c.ok) : c.collapse.ok := by
  unfold CG.collapse
  unfold CG.ok at *
  simp only
  omega

set_option maxHeartbeats 400000 in
theorem collapse_any (b : Nat) (c : CG) (w : World) (hb : Blk w b c.cells 47) (hc : c.ok) :
    Calls Try.prog 17 #[.pointer (some ⟨b, 0, none⟩)] w fun e w' => e = .returned (.tuple #[]) ∧ Blk w' b c.collapse.cells 47 ∧ Keeps (fun k => k = b) w w' := by
  obtain ⟨⟨h0, h1, h2, h3, h4, h5⟩, hf⟩ := cells_of hb
  have HB := Lib.hid hb
  obtain ⟨hc0, hc1, hc2, hc3, hc4, hc5, hc6, hc7⟩ := hc
  clear hb
  go_enter Try.func17, Try.ntmps17
  go_wp2_with go_region
  all_goals
    go_returns
    refine ⟨rfl, ?_, by repeat (first | (with_reducible exact Keeps.refl _ _) | (with_reducible refine Keeps.drew ?_) | (with_reducible refine Keeps.put ?_ _ _))⟩
    apply Blk.as
    · repeat (first | (with_reducible exact HB.out) | (with_reducible apply Blk.drew) | (with_reducible apply Blk.set))
    · simp [CG.cells, CG.collapse]

set_option maxHeartbeats 400000 in
theorem collapser_any (b : Nat) (c : CG) (w : World) (hb : Blk w b c.cells 40) (hc : c.ok) :
    Calls Try.prog 18 #[.pointer (some ⟨b, 0, none⟩)] w fun e w' => e = .returned (.tuple #[]) ∧ Blk w' b c.collapse.cells 40 ∧ Keeps (fun k => k = b) w w' := by
  obtain ⟨⟨h0, h1, h2, h3, h4, h5⟩, hf⟩ := cells_of hb
  have HB := Lib.hid hb
  obtain ⟨hc0, hc1, hc2, hc3, hc4, hc5, hc6, hc7⟩ := hc
  clear hb
  go_enter Try.func18, Try.ntmps18
  go_wp2_with go_region
  all_goals
    go_returns
    refine ⟨rfl, ?_, by repeat (first | (with_reducible exact Keeps.refl _ _) | (with_reducible refine Keeps.drew ?_) | (with_reducible refine Keeps.put ?_ _ _))⟩
    apply Blk.as
    · repeat (first | (with_reducible exact HB.out) | (with_reducible apply Blk.drew) | (with_reducible apply Blk.set))
    · simp [CG.cells, CG.collapse]

def CG.may (c : CG) (f n : Int) : Bool := decide (f ≤ 0) || (decide (f ≤ c.W) && decide ((if n < 0 then 0 else n) ≤ c.W - f))

set_option maxHeartbeats 400000 in
theorem may_any (b : Nat) (c : CG) (f n : Int) (w : World) (hb : Blk w b c.cells 47) (hc : c.ok) :
    Calls Try.prog 20 #[.pointer (some ⟨b, 0, none⟩), .int .i64 f, .int .i64 n] w fun e w' => e = .returned (.bool (c.may f n)) ∧ w = w' := by
  obtain ⟨⟨h0, h1, h2, h3, h4, h5⟩, hf⟩ := cells_of hb
  obtain ⟨hc0, hc1, hc2, hc3, hc4, hc5, hc6, hc7⟩ := hc
  clear hb
  by_cases hp : f ≤ 0
  · have hm : (if f < 0 then 0 else f) = 0 := by split <;> omega
    go_enter Try.func20, Try.ntmps20
    go_wp2_with (first | go_region | (go_ret; exact ⟨by simp [CG.may, hp], rfl⟩))
  · have hm : (if f < 0 then 0 else f) = f := by split <;> omega
    have hz : (f == 0) = false := by simp; omega
    by_cases hq : f ≤ c.W
    · go_enter Try.func20, Try.ntmps20
      go_wp2_with (first | go_region | (go_ret; exact ⟨by simp [CG.may, hp, hq], rfl⟩))
    · go_enter Try.func20, Try.ntmps20
      go_wp2_with (first | go_region | (go_ret; exact ⟨by simp [CG.may, hp, hq], rfl⟩))

set_option maxHeartbeats 400000 in
theorem mayr_any (b : Nat) (c : CG) (f n : Int) (w : World) (hb : Blk w b c.cells 40) (hc : c.ok) :
    Calls Try.prog 21 #[.pointer (some ⟨b, 0, none⟩), .int .i64 f, .int .i64 n] w fun e w' => e = .returned (.bool (c.may f n)) ∧ w = w' := by
  obtain ⟨⟨h0, h1, h2, h3, h4, h5⟩, hf⟩ := cells_of hb
  obtain ⟨hc0, hc1, hc2, hc3, hc4, hc5, hc6, hc7⟩ := hc
  clear hb
  by_cases hp : f ≤ 0
  · have hm : (if f < 0 then 0 else f) = 0 := by split <;> omega
    go_enter Try.func21, Try.ntmps21
    go_wp2_with (first | go_region | (go_ret; exact ⟨by simp [CG.may, hp], rfl⟩))
  · have hm : (if f < 0 then 0 else f) = f := by split <;> omega
    have hz : (f == 0) = false := by simp; omega
    by_cases hq : f ≤ c.W
    · go_enter Try.func21, Try.ntmps21
      go_wp2_with (first | go_region | (go_ret; exact ⟨by simp [CG.may, hp, hq], rfl⟩))
    · go_enter Try.func21, Try.ntmps21
      go_wp2_with (first | go_region | (go_ret; exact ⟨by simp [CG.may, hp, hq], rfl⟩))

end Go.Proofs.Ytnegiagooahncaa
