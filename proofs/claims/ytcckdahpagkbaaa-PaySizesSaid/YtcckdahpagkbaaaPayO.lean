/- A payload that is right, told: a going away, a push without padding. -/
import Derived.Test.YtcckdahpagkbaaaPayM
import Derived.Test.YtcckdahpagkbaaaHeldB
import Derived.IntWalk
namespace Go.Proofs.Ytcckdahpagkbaaa
open Go.RowKit Go.Deep

set_option maxHeartbeats 3200000 in
theorem told_7 (fl st : Int) (a : Option Addr) (n cap : Nat) (xs : List UInt8) (w : World) (hx : By w a n cap xs) (hn : n ≤ 1000000) (h8 : 8 ≤ n) :
    Calls Try.prog 18 #[FrV 7 fl st a n cap] w (Tol w) := by
  have hk0 := ((Below.refl w.heap.size w).alloc (Nat.le_refl _) (.cells #[.int .u8 7, .int .u8 fl, .int .u32 st, .slice a n cap] 30 (0, 0))).alloc (by simp) (.cells #[.slice none 0 0, .slice none 0 0, .int .u32 0, .int .u32 0, .int .u32 0] 33 (0, 0))
  have hb0 := (Blk.new w #[.int .u8 7, .int .u8 fl, .int .u32 st, .slice a n cap] 30).alloc (.cells #[.slice none 0 0, .slice none 0 0, .int .u32 0, .int .u32 0, .int .u32 0] 33 (0, 0))
  have hb1 := Blk.new (w.alloc (.cells #[.int .u8 7, .int .u8 fl, .int .u32 st, .slice a n cap] 30 (0, 0))) #[.slice none 0 0, .slice none 0 0, .int .u32 0, .int .u32 0, .int .u32 0] 33
  rw [World.size_alloc] at hb1
  have HK0 := Lib.hid hk0
  have HB0 := Lib.hid hb0
  have HB1 := Lib.hid hb1
  have HX := Lib.hid hx
  clear hk0 hb0 hb1 hx
  unfold FrV
  go_enter Try.func18, Try.ntmps18
  go_wp2_with (at_builtin; refine halt ?_)
  refine Halted.go (wpList_copy8 _ rfl _ rfl a n cap xs rfl ((HX.out.alloc _).alloc _) (by omega) ?_)
  intro a6 c6 w6 ho6 hk6
  have hs0 : ((w.alloc (.cells #[.int .u8 7, .int .u8 fl, .int .u32 st, .slice a n cap] 30 (0, 0))).alloc (.cells #[.slice none 0 0, .slice none 0 0, .int .u32 0, .int .u32 0, .int .u32 0] 33 (0, 0))).heap.size = w.heap.size + 2 := by simp
  have HF6 := Lib.hid ((Below.keeps hk6).blk HB0.out (by rw [hs0]; omega))
  have HR6 := Lib.hid ((Below.keeps hk6).blk HB1.out (by rw [hs0]; omega))
  have HK6 := Lib.hid (HK0.out.trans (hk6.mono (by rw [hs0]; omega)))
  rw [hs0] at ho6
  have HO6 := Lib.hid ho6
  have hs6 : w.heap.size + 2 ≤ w6.heap.size := by have := hk6.size; rw [hs0] at this; exact this
  have hf6 := HF6.out
  have f0 : w6.cell? ⟨w.heap.size, 0, none⟩ = some (.int .u8 7) := hf6.cell 0
  have f1 : w6.cell? ⟨w.heap.size, 1, none⟩ = some (.int .u8 fl) := hf6.cell 1
  have f2 : w6.cell? ⟨w.heap.size, 2, none⟩ = some (.int .u32 st) := hf6.cell 2
  have f3 : w6.cell? ⟨w.heap.size, 3, none⟩ = some (.slice a n cap) := hf6.cell 3
  have HX6 := Lib.hid (((HX.out.alloc _).alloc _).grow hk6)
  clear hs0 ho6 hk6 hf6 HK0 HB0 HB1 HX
  clear f1 f2 f3
  obtain ⟨b, off, rfl, hbl, _⟩ := HO6.out.by.get (by omega)
  have hc6 := HO6.out.by.2.le
  have y1 : (4 : Int) ≤ (n : Int) := by omega
  have y2 : (8 : Int) ≤ (n : Int) := by omega
  have y3 : (n : Int) ≤ (c6 : Int) := by omega
  have hc4 : ¬ c6 = 4 := by omega
  go_wp2_with fail
  by_cases hc8 : c6 = 8
  · subst hc8
    obtain rfl : n = 8 := by omega
    refine wp_region_held (S := fun _ => True) (by kernel_rfl) ?_
    change wpAnyH _ _ _ _ _ _ _ _ (World.drew _)
    have hS : True := trivial
    refine wpAnyH_take (i := 0) (v := ?_) rfl (by kernel_rfl) (by kernel_rfl) (by kernel_rfl) (fun _ _ _ h => h) (Or.inl ⟨by kernel_rfl, ?_⟩) hS ?_
    rotate_left
    · intro wz _; go_simp; try with_reducible rfl
    refine wpAnyH_take (i := 3) (v := ?_) rfl (by kernel_rfl) (by kernel_rfl) (by kernel_rfl) (fun _ _ _ h => h) (Or.inl ⟨by kernel_rfl, ?_⟩) hS ?_
    rotate_left
    · intro wz _; go_simp; try with_reducible rfl
    refine wpAnyH_take (i := 4) (v := ?_) rfl (by kernel_rfl) (by kernel_rfl) (by kernel_rfl) (fun _ _ _ h => h) (Or.inl ⟨by kernel_rfl, ?_⟩) hS ?_
    rotate_left
    · intro wz _; go_simp; try with_reducible rfl
    refine wpAnyH_take (i := 6) (v := ?_) rfl (by kernel_rfl) (by kernel_rfl) (by kernel_rfl) (fun _ _ _ h => h) (Or.inl ⟨by kernel_rfl, ?_⟩) hS ?_
    rotate_left
    · intro wz _; go_simp; try with_reducible rfl
    refine wpAnyH_take (i := 7) (v := ?_) rfl (by kernel_rfl) (by kernel_rfl) (by kernel_rfl) (fun _ _ _ h => h) (Or.inl ⟨by kernel_rfl, ?_⟩) hS ?_
    rotate_left
    · intro wz _; go_simp; try with_reducible rfl
    refine held_call (i := 1) 26 #[.slice (some ⟨b, off, none⟩) 8 8] rfl (by kernel_rfl) (by kernel_rfl) (by kernel_rfl) ?_
    refine (number_any _ _ _ _ _ (By.drew' HO6.out.by)).mono ?_
    rintro e w8 ⟨⟨v, rfl, _⟩, rfl⟩
    refine ⟨_, rfl, hS, ?_⟩
    refine wpAnyH_take (i := 2) (v := ?_) rfl (by kernel_rfl) (by kernel_rfl) (by kernel_rfl) (fun _ _ _ h => h) (Or.inl ⟨by kernel_rfl, ?_⟩) hS ?_
    rotate_left
    · intro wz _; go_simp; try with_reducible rfl
    have HY := Lib.hid ((By.drew' HO6.out.by).from 4 (by omega))
    rw [show offA (some ⟨b, off, none⟩) 8 4 = some ⟨b, off + 4, none⟩ from if_neg (by omega)] at HY
    refine held_call (i := 5) 26 #[.slice (some ⟨b, off + 4, none⟩) (8 - 4) (8 - 4)] rfl (by kernel_rfl) (by kernel_rfl) (by kernel_rfl) ?_
    refine (number_any _ _ _ _ _ HY.out).mono ?_
    rintro e w8 ⟨⟨v2, rfl, _⟩, rfl⟩
    refine ⟨_, rfl, hS, ?_⟩
    refine wpAnyH_take (i := 8) (v := ?_) rfl (by kernel_rfl) (by kernel_rfl) (by kernel_rfl) (fun _ _ _ h => h) (Or.inl ⟨by kernel_rfl, ?_⟩) hS ?_
    rotate_left
    · intro wz _; go_simp; try with_reducible rfl
    obtain ⟨⟨p0, p1, p2, p3, p4⟩, z0, z1, z2, z3, z4⟩ := pay_cells HR6.out
    have HBF := Lib.hid (pay_set HR6.out (.slice (some ⟨b, off, none⟩) 0 0) (.slice none 0 0) (.int .u32 v2) (.int .u32 (bits .and .u32 v 2147483647)) (.int .u32 0))
    have HKF := Lib.hid (Keeps.below HK6.out (pay_keep w6 (w.heap.size + 1) (.slice (some ⟨b, off, none⟩) 0 0) (.slice none 0 0) (.int .u32 v2) (.int .u32 (bits .and .u32 v 2147483647)) (.int .u32 0)) HK6.out.size (fun k hk => by omega))
    refine held_skip (i := 9) (((((w6.setCell ⟨w.heap.size + 1, 0, none⟩ (.slice (some ⟨b, off, none⟩) 0 0)).setCell ⟨w.heap.size + 1, 1, none⟩ (.slice none 0 0)).setCell ⟨w.heap.size + 1, 2, none⟩ (.int .u32 v2)).setCell ⟨w.heap.size + 1, 3, none⟩ (.int .u32 (bits .and .u32 v 2147483647))).setCell ⟨w.heap.size + 1, 4, none⟩ (.int .u32 0)).drew rfl (by kernel_rfl) (by kernel_rfl) ?_ ?_ ?_
    · go_simp; try with_reducible rfl
    · trivial
    refine wpAnyH_done (by kernel_rfl) ?_ _
    clear p0 p1 p2 p3 p4 z0 z1 z2 z3 z4 hS
    obtain ⟨⟨s0, s1, s2, s3, s4⟩, _⟩ := pay_cells HBF.out
    go_wp2_with fail
    (try simp only [Exit.inBlock, Exit.then])
    refine bodyPost_ret (by simp [results, Try.results18, go_sem, s0, s1, s2, s3, s4]; try rfl) rfl ?_
    exact ⟨_, _, _, _, _, _, _, _, rfl, HKF.out.drew⟩
  ·
    refine wp_region_held (S := fun _ => True) (by kernel_rfl) ?_
    change wpAnyH _ _ _ _ _ _ _ _ (World.drew _)
    have hS : True := trivial
    refine wpAnyH_take (i := 0) (v := ?_) rfl (by kernel_rfl) (by kernel_rfl) (by kernel_rfl) (fun _ _ _ h => h) (Or.inl ⟨by kernel_rfl, ?_⟩) hS ?_
    rotate_left
    · intro wz _; go_simp; try with_reducible rfl
    refine wpAnyH_take (i := 3) (v := ?_) rfl (by kernel_rfl) (by kernel_rfl) (by kernel_rfl) (fun _ _ _ h => h) (Or.inl ⟨by kernel_rfl, ?_⟩) hS ?_
    rotate_left
    · intro wz _; go_simp; try with_reducible rfl
    refine wpAnyH_take (i := 4) (v := ?_) rfl (by kernel_rfl) (by kernel_rfl) (by kernel_rfl) (fun _ _ _ h => h) (Or.inl ⟨by kernel_rfl, ?_⟩) hS ?_
    rotate_left
    · intro wz _; go_simp; try with_reducible rfl
    refine wpAnyH_take (i := 6) (v := ?_) rfl (by kernel_rfl) (by kernel_rfl) (by kernel_rfl) (fun _ _ _ h => h) (Or.inl ⟨by kernel_rfl, ?_⟩) hS ?_
    rotate_left
    · intro wz _; go_simp; try with_reducible rfl
    refine wpAnyH_take (i := 7) (v := ?_) rfl (by kernel_rfl) (by kernel_rfl) (by kernel_rfl) (fun _ _ _ h => h) (Or.inl ⟨by kernel_rfl, ?_⟩) hS ?_
    rotate_left
    · intro wz _; go_simp; try with_reducible rfl
    refine held_call (i := 1) 26 #[.slice (some ⟨b, off, none⟩) n c6] rfl (by kernel_rfl) (by kernel_rfl) (by kernel_rfl) ?_
    refine (number_any _ _ _ _ _ (By.drew' HO6.out.by)).mono ?_
    rintro e w8 ⟨⟨v, rfl, _⟩, rfl⟩
    refine ⟨_, rfl, hS, ?_⟩
    refine wpAnyH_take (i := 2) (v := ?_) rfl (by kernel_rfl) (by kernel_rfl) (by kernel_rfl) (fun _ _ _ h => h) (Or.inl ⟨by kernel_rfl, ?_⟩) hS ?_
    rotate_left
    · intro wz _; go_simp; try with_reducible rfl
    have HY := Lib.hid ((By.drew' HO6.out.by).from 4 (by omega))
    rw [show offA (some ⟨b, off, none⟩) c6 4 = some ⟨b, off + 4, none⟩ from if_neg (by omega)] at HY
    refine held_call (i := 5) 26 #[.slice (some ⟨b, off + 4, none⟩) (n - 4) (c6 - 4)] rfl (by kernel_rfl) (by kernel_rfl) (by kernel_rfl) ?_
    refine (number_any _ _ _ _ _ HY.out).mono ?_
    rintro e w8 ⟨⟨v2, rfl, _⟩, rfl⟩
    refine ⟨_, rfl, hS, ?_⟩
    refine wpAnyH_take (i := 8) (v := ?_) rfl (by kernel_rfl) (by kernel_rfl) (by kernel_rfl) (fun _ _ _ h => h) (Or.inl ⟨by kernel_rfl, ?_⟩) hS ?_
    rotate_left
    · intro wz _; go_simp; try with_reducible rfl
    obtain ⟨⟨p0, p1, p2, p3, p4⟩, z0, z1, z2, z3, z4⟩ := pay_cells HR6.out
    have HBF := Lib.hid (pay_set HR6.out (.slice (some ⟨b, off + 8, none⟩) (n - 8) (c6 - 8)) (.slice none 0 0) (.int .u32 v2) (.int .u32 (bits .and .u32 v 2147483647)) (.int .u32 0))
    have HKF := Lib.hid (Keeps.below HK6.out (pay_keep w6 (w.heap.size + 1) (.slice (some ⟨b, off + 8, none⟩) (n - 8) (c6 - 8)) (.slice none 0 0) (.int .u32 v2) (.int .u32 (bits .and .u32 v 2147483647)) (.int .u32 0)) HK6.out.size (fun k hk => by omega))
    refine held_skip (i := 9) (((((w6.setCell ⟨w.heap.size + 1, 0, none⟩ (.slice (some ⟨b, off + 8, none⟩) (n - 8) (c6 - 8))).setCell ⟨w.heap.size + 1, 1, none⟩ (.slice none 0 0)).setCell ⟨w.heap.size + 1, 2, none⟩ (.int .u32 v2)).setCell ⟨w.heap.size + 1, 3, none⟩ (.int .u32 (bits .and .u32 v 2147483647))).setCell ⟨w.heap.size + 1, 4, none⟩ (.int .u32 0)).drew rfl (by kernel_rfl) (by kernel_rfl) ?_ ?_ ?_
    · go_simp; try with_reducible rfl
    · trivial
    refine wpAnyH_done (by kernel_rfl) ?_ _
    clear p0 p1 p2 p3 p4 z0 z1 z2 z3 z4 hS
    obtain ⟨⟨s0, s1, s2, s3, s4⟩, _⟩ := pay_cells HBF.out
    go_wp2_with fail
    (try simp only [Exit.inBlock, Exit.then])
    refine bodyPost_ret (by simp [results, Try.results18, go_sem, s0, s1, s2, s3, s4]; try rfl) rfl ?_
    exact ⟨_, _, _, _, _, _, _, _, rfl, HKF.out.drew⟩

set_option maxHeartbeats 3200000 in
theorem told_5 (fl st : Int) (a : Option Addr) (n cap : Nat) (xs : List UInt8) (w : World) (hx : By w a n cap xs) (hn : n ≤ 1000000) (hfl : padP 5 fl = false) (h4 : 4 ≤ n) :
    Calls Try.prog 18 #[FrV 5 fl st a n cap] w (Tol w) := by
  have hk0 := ((Below.refl w.heap.size w).alloc (Nat.le_refl _) (.cells #[.int .u8 5, .int .u8 fl, .int .u32 st, .slice a n cap] 30 (0, 0))).alloc (by simp) (.cells #[.slice none 0 0, .slice none 0 0, .int .u32 0, .int .u32 0, .int .u32 0] 33 (0, 0))
  have hb0 := (Blk.new w #[.int .u8 5, .int .u8 fl, .int .u32 st, .slice a n cap] 30).alloc (.cells #[.slice none 0 0, .slice none 0 0, .int .u32 0, .int .u32 0, .int .u32 0] 33 (0, 0))
  have hb1 := Blk.new (w.alloc (.cells #[.int .u8 5, .int .u8 fl, .int .u32 st, .slice a n cap] 30 (0, 0))) #[.slice none 0 0, .slice none 0 0, .int .u32 0, .int .u32 0, .int .u32 0] 33
  rw [World.size_alloc] at hb1
  have HK0 := Lib.hid hk0
  have HB0 := Lib.hid hb0
  have HB1 := Lib.hid hb1
  have HX := Lib.hid hx
  clear hk0 hb0 hb1 hx
  unfold FrV
  go_enter Try.func18, Try.ntmps18
  go_wp2_with (at_builtin; refine halt ?_)
  refine Halted.go (wpList_copy8 _ rfl _ rfl a n cap xs rfl ((HX.out.alloc _).alloc _) (by omega) ?_)
  intro a6 c6 w6 ho6 hk6
  have hs0 : ((w.alloc (.cells #[.int .u8 5, .int .u8 fl, .int .u32 st, .slice a n cap] 30 (0, 0))).alloc (.cells #[.slice none 0 0, .slice none 0 0, .int .u32 0, .int .u32 0, .int .u32 0] 33 (0, 0))).heap.size = w.heap.size + 2 := by simp
  have HF6 := Lib.hid ((Below.keeps hk6).blk HB0.out (by rw [hs0]; omega))
  have HR6 := Lib.hid ((Below.keeps hk6).blk HB1.out (by rw [hs0]; omega))
  have HK6 := Lib.hid (HK0.out.trans (hk6.mono (by rw [hs0]; omega)))
  rw [hs0] at ho6
  have HO6 := Lib.hid ho6
  have hs6 : w.heap.size + 2 ≤ w6.heap.size := by have := hk6.size; rw [hs0] at this; exact this
  have hf6 := HF6.out
  have f0 : w6.cell? ⟨w.heap.size, 0, none⟩ = some (.int .u8 5) := hf6.cell 0
  have f1 : w6.cell? ⟨w.heap.size, 1, none⟩ = some (.int .u8 fl) := hf6.cell 1
  have f2 : w6.cell? ⟨w.heap.size, 2, none⟩ = some (.int .u32 st) := hf6.cell 2
  have f3 : w6.cell? ⟨w.heap.size, 3, none⟩ = some (.slice a n cap) := hf6.cell 3
  have HX6 := Lib.hid (((HX.out.alloc _).alloc _).grow hk6)
  clear hs0 ho6 hk6 hf6 HK0 HB0 HB1 HX
  have ha : aheadI 5 fl = ((4 : Nat) : Int) := by simp [aheadI, hfl, prioP]
  have hp : padI 5 fl xs = ((0 : Nat) : Int) := by simp [padI, hfl]
  have HA := Lib.hid ha
  have HP := Lib.hid hp
  have HFL := Lib.hid hfl
  clear ha hp hfl
  obtain ⟨b, off, rfl, hbl, _⟩ := HO6.out.by.get (by omega)
  have hc6 := HO6.out.by.2.le
  have y2 : (4 : Int) ≤ (n : Int) := by omega
  have y3 : (n : Int) ≤ (c6 : Int) := by omega
  have hc0 : ¬ c6 = 0 := by omega
  have hwn : IntKind.i64.wrap (n : Int) = (n : Int) := by rw [IntKind.wrap_i64]; omega
  have hw4 : IntKind.i64.wrap 4 = 4 := by decide +kernel
  have hwz : IntKind.i64.wrap 0 = 0 := by decide +kernel
  have HY6 := Lib.hid HO6.out.by
  have HKd := Lib.hid HK6.out.drew
  have hsd : w.heap.size + 2 ≤ w6.drew.heap.size := hs6
  go_wp2_with fail
  by_cases hc4 : c6 = 4
  · subst hc4
    obtain rfl : n = 4 := by omega
    refine wp_region_held (S := fun w' => w'.cell? ⟨w.heap.size, 0, none⟩ = some (.int .u8 5) ∧ w'.cell? ⟨w.heap.size, 1, none⟩ = some (.int .u8 fl) ∧ w'.cell? ⟨w.heap.size, 2, none⟩ = some (.int .u32 st) ∧ w'.cell? ⟨w.heap.size, 3, none⟩ = some (.slice a 4 cap)) (by kernel_rfl) ?_
    change wpAnyH _ _ _ _ _ _ _ _ (World.drew _)
    have hS : (fun w' : World => w'.cell? ⟨w.heap.size, 0, none⟩ = some (.int .u8 5) ∧ w'.cell? ⟨w.heap.size, 1, none⟩ = some (.int .u8 fl) ∧ w'.cell? ⟨w.heap.size, 2, none⟩ = some (.int .u32 st) ∧ w'.cell? ⟨w.heap.size, 3, none⟩ = some (.slice a 4 cap)) w6.drew := ⟨HF6.out.cell 0, HF6.out.cell 1, HF6.out.cell 2, HF6.out.cell 3⟩
    refine wpAnyH_take (i := 0) (v := ?_) rfl (by kernel_rfl) (by kernel_rfl) (by kernel_rfl) (fun _ _ _ h => h) (Or.inl ⟨by kernel_rfl, ?_⟩) hS ?_
    rotate_left
    · intro wz ⟨_, _, _, _⟩; go_simp; try with_reducible rfl
    refine wpAnyH_take (i := 1) (v := ?_) rfl (by kernel_rfl) (by kernel_rfl) (by kernel_rfl) (fun _ _ _ h => h) (Or.inl ⟨by kernel_rfl, ?_⟩) hS ?_
    rotate_left
    · intro wz ⟨_, _, _, _⟩; go_simp; try with_reducible rfl
    refine wpAnyH_take (i := 3) (v := ?_) rfl (by kernel_rfl) (by kernel_rfl) (by kernel_rfl) (fun _ _ _ h => h) (Or.inl ⟨by kernel_rfl, ?_⟩) hS ?_
    rotate_left
    · intro wz ⟨_, _, _, _⟩; go_simp; try with_reducible rfl
    refine wpAnyH_take (i := 4) (v := ?_) rfl (by kernel_rfl) (by kernel_rfl) (by kernel_rfl) (fun _ _ _ h => h) (Or.inl ⟨by kernel_rfl, ?_⟩) hS ?_
    rotate_left
    · intro wz ⟨_, _, _, _⟩; go_simp; try with_reducible rfl
    refine wpAnyH_take (i := 5) (v := ?_) rfl (by kernel_rfl) (by kernel_rfl) (by kernel_rfl) (fun _ _ _ h => h) (Or.inl ⟨by kernel_rfl, ?_⟩) hS ?_
    rotate_left
    · intro wz ⟨_, _, _, _⟩; go_simp; try with_reducible rfl
    refine wpAnyH_take (i := 9) (v := ?_) rfl (by kernel_rfl) (by kernel_rfl) (by kernel_rfl) (fun _ _ _ h => h) (Or.inl ⟨by kernel_rfl, ?_⟩) hS ?_
    rotate_left
    · intro wz ⟨_, _, _, _⟩; go_simp; try with_reducible rfl
    refine wpAnyH_take (i := 10) (v := ?_) rfl (by kernel_rfl) (by kernel_rfl) (by kernel_rfl) (fun _ _ _ h => h) (Or.inl ⟨by kernel_rfl, ?_⟩) hS ?_
    rotate_left
    · intro wz ⟨_, _, _, _⟩; go_simp; try with_reducible rfl
    clear f0 f1 f2 f3
    refine held_call (i := 2) 17 #[.agg #[.int .u8 5, .int .u8 fl, .int .u32 st, .slice a 4 cap]] rfl (by kernel_rfl) (by kernel_rfl) (by kernel_rfl) ?_
    refine (ahead_is 5 fl st a 4 cap _ HA.out).mono ?_
    rintro e w7 ⟨rfl, hk7⟩
    have HF7 := Lib.hid ((Below.keeps hk7).blk HF6.out.drew (by omega))
    have HR7 := Lib.hid ((Below.keeps hk7).blk HR6.out.drew (by omega))
    have HX7 := Lib.hid (By.grow (w := w6.drew) (By.drew' HX6.out) hk7)
    have HY7 := Lib.hid (By.grow (w := w6.drew) (By.drew' HY6.out) hk7)
    have HK7 := Lib.hid (HKd.out.trans (hk7.mono HKd.out.size))
    have hs7 : w.heap.size + 2 ≤ w7.heap.size := Nat.le_trans hsd hk7.size
    clear hk7 hS
    have hS : (fun w' : World => w'.cell? ⟨w.heap.size, 0, none⟩ = some (.int .u8 5) ∧ w'.cell? ⟨w.heap.size, 1, none⟩ = some (.int .u8 fl) ∧ w'.cell? ⟨w.heap.size, 2, none⟩ = some (.int .u32 st) ∧ w'.cell? ⟨w.heap.size, 3, none⟩ = some (.slice a 4 cap)) w7 := ⟨HF7.out.cell 0, HF7.out.cell 1, HF7.out.cell 2, HF7.out.cell 3⟩
    refine ⟨_, rfl, hS, ?_⟩
    refine held_call (i := 6) 16 #[.agg #[.int .u8 5, .int .u8 fl, .int .u32 st, .slice a 4 cap]] rfl (by kernel_rfl) (by kernel_rfl) (by kernel_rfl) ?_
    refine (pad_is 5 fl st a 4 cap xs w7 HX7.out (fun h => by rw [HFL.out] at h; cases h) HP.out).mono ?_
    rintro e w8 ⟨rfl, hk8⟩
    have HF8 := Lib.hid ((Below.keeps hk8).blk HF7.out (by omega))
    have HR8 := Lib.hid ((Below.keeps hk8).blk HR7.out (by omega))
    have HX8 := Lib.hid (By.grow (w := w7) HX7.out hk8)
    have HY8 := Lib.hid (By.grow (w := w7) HY7.out hk8)
    have HK8 := Lib.hid (HK7.out.trans (hk8.mono HK7.out.size))
    have hs8 : w.heap.size + 2 ≤ w8.heap.size := Nat.le_trans hs7 hk8.size
    clear hk8 hS
    have hS : (fun w' : World => w'.cell? ⟨w.heap.size, 0, none⟩ = some (.int .u8 5) ∧ w'.cell? ⟨w.heap.size, 1, none⟩ = some (.int .u8 fl) ∧ w'.cell? ⟨w.heap.size, 2, none⟩ = some (.int .u32 st) ∧ w'.cell? ⟨w.heap.size, 3, none⟩ = some (.slice a 4 cap)) w8 := ⟨HF8.out.cell 0, HF8.out.cell 1, HF8.out.cell 2, HF8.out.cell 3⟩
    refine ⟨_, rfl, hS, ?_⟩
    refine wpAnyH_take (i := 7) (v := ?_) rfl (by kernel_rfl) (by kernel_rfl) (by kernel_rfl) (fun _ _ _ h => h) (Or.inl ⟨by kernel_rfl, ?_⟩) hS ?_
    rotate_left
    · intro wz ⟨_, _, _, _⟩; go_simp; try with_reducible rfl
    refine wpAnyH_take (i := 8) (v := ?_) rfl (by kernel_rfl) (by kernel_rfl) (by kernel_rfl) (fun _ _ _ h => h) (Or.inl ⟨by kernel_rfl, ?_⟩) hS ?_
    rotate_left
    · intro wz ⟨_, _, _, _⟩; go_simp; try with_reducible rfl
    refine held_call (i := 11) 17 #[.agg #[.int .u8 5, .int .u8 fl, .int .u32 st, .slice a 4 cap]] rfl (by kernel_rfl) (by kernel_rfl) (by kernel_rfl) ?_
    refine (ahead_is 5 fl st a 4 cap _ HA.out).mono ?_
    rintro e w9 ⟨rfl, hk9⟩
    have HF9 := Lib.hid ((Below.keeps hk9).blk HF8.out (by omega))
    have HR9 := Lib.hid ((Below.keeps hk9).blk HR8.out (by omega))
    have HX9 := Lib.hid (By.grow (w := w8) HX8.out hk9)
    have HY9 := Lib.hid (By.grow (w := w8) HY8.out hk9)
    have HK9 := Lib.hid (HK8.out.trans (hk9.mono HK8.out.size))
    have hs9 : w.heap.size + 2 ≤ w9.heap.size := Nat.le_trans hs8 hk9.size
    clear hk9 hS
    have hS : (fun w' : World => w'.cell? ⟨w.heap.size, 0, none⟩ = some (.int .u8 5) ∧ w'.cell? ⟨w.heap.size, 1, none⟩ = some (.int .u8 fl) ∧ w'.cell? ⟨w.heap.size, 2, none⟩ = some (.int .u32 st) ∧ w'.cell? ⟨w.heap.size, 3, none⟩ = some (.slice a 4 cap)) w9 := ⟨HF9.out.cell 0, HF9.out.cell 1, HF9.out.cell 2, HF9.out.cell 3⟩
    refine ⟨_, rfl, hS, ?_⟩
    refine wpAnyH_take (i := 12) (v := ?_) rfl (by kernel_rfl) (by kernel_rfl) (by kernel_rfl) (fun _ _ _ h => h) (Or.inl ⟨by kernel_rfl, ?_⟩) hS ?_
    rotate_left
    · intro wz ⟨_, _, _, _⟩; go_simp; try with_reducible rfl
    refine wpAnyH_take (i := 13) (v := ?_) rfl (by kernel_rfl) (by kernel_rfl) (by kernel_rfl) (fun _ _ _ h => h) (Or.inl ⟨by kernel_rfl, ?_⟩) hS ?_
    rotate_left
    · intro wz ⟨_, _, _, _⟩; go_simp; try with_reducible rfl
    refine held_call (i := 14) 26 #[.slice (some ⟨b, off, none⟩) 4 4] rfl (by kernel_rfl) (by kernel_rfl) (by kernel_rfl) ?_
    refine (number_any _ _ _ _ _ HY9.out).mono ?_
    rintro e w10 ⟨⟨v, rfl, _⟩, rfl⟩
    refine ⟨_, rfl, hS, ?_⟩
    refine wpAnyH_take (i := 15) (v := ?_) rfl (by kernel_rfl) (by kernel_rfl) (by kernel_rfl) (fun _ _ _ h => h) (Or.inl ⟨by kernel_rfl, ?_⟩) hS ?_
    rotate_left
    · intro wz ⟨_, _, _, _⟩; go_simp; try with_reducible rfl
    refine wpAnyH_take (i := 16) (v := ?_) rfl (by kernel_rfl) (by kernel_rfl) (by kernel_rfl) (fun _ _ _ h => h) (Or.inl ⟨by kernel_rfl, ?_⟩) hS ?_
    rotate_left
    · intro wz ⟨_, _, _, _⟩; go_simp; try with_reducible rfl
    obtain ⟨⟨p0, p1, p2, p3, p4⟩, z0, z1, z2, z3, z4⟩ := pay_cells HR9.out
    have HBF := Lib.hid (pay_set HR9.out (.slice (some ⟨b, off, none⟩) 0 0) (.slice none 0 0) (.int .u32 0) (.int .u32 (bits .and .u32 v 2147483647)) (.int .u32 0))
    have HKF := Lib.hid (Keeps.below HK9.out (pay_keep w9 (w.heap.size + 1) (.slice (some ⟨b, off, none⟩) 0 0) (.slice none 0 0) (.int .u32 0) (.int .u32 (bits .and .u32 v 2147483647)) (.int .u32 0)) HK9.out.size (fun k hk => by omega))
    refine held_skip (i := 17) (((((w9.setCell ⟨w.heap.size + 1, 0, none⟩ (.slice (some ⟨b, off, none⟩) 0 0)).setCell ⟨w.heap.size + 1, 1, none⟩ (.slice none 0 0)).setCell ⟨w.heap.size + 1, 2, none⟩ (.int .u32 0)).setCell ⟨w.heap.size + 1, 3, none⟩ (.int .u32 (bits .and .u32 v 2147483647))).setCell ⟨w.heap.size + 1, 4, none⟩ (.int .u32 0)) rfl (by kernel_rfl) (by kernel_rfl) ?_ ?_ ?_
    · go_simp; try with_reducible rfl
    · have HFE := Lib.hid ((pay_keep w9 (w.heap.size + 1) (.slice (some ⟨b, off, none⟩) 0 0) (.slice none 0 0) (.int .u32 0) (.int .u32 (bits .and .u32 v 2147483647)) (.int .u32 0)).blk HF9.out (by omega))
      exact ⟨HFE.out.cell 0, HFE.out.cell 1, HFE.out.cell 2, HFE.out.cell 3⟩
    refine wpAnyH_done (by kernel_rfl) ?_ _
    clear p0 p1 p2 p3 p4 z0 z1 z2 z3 z4 hS
    obtain ⟨⟨s0, s1, s2, s3, s4⟩, _⟩ := pay_cells HBF.out
    go_wp2_with fail
    (try simp only [Exit.inBlock, Exit.then])
    refine bodyPost_ret (by simp [results, Try.results18, go_sem, s0, s1, s2, s3, s4]; try rfl) rfl ?_
    exact ⟨_, _, _, _, _, _, _, _, rfl, HKF.out⟩
  ·
    refine wp_region_held (S := fun w' => w'.cell? ⟨w.heap.size, 0, none⟩ = some (.int .u8 5) ∧ w'.cell? ⟨w.heap.size, 1, none⟩ = some (.int .u8 fl) ∧ w'.cell? ⟨w.heap.size, 2, none⟩ = some (.int .u32 st) ∧ w'.cell? ⟨w.heap.size, 3, none⟩ = some (.slice a n cap)) (by kernel_rfl) ?_
    change wpAnyH _ _ _ _ _ _ _ _ (World.drew _)
    have hS : (fun w' : World => w'.cell? ⟨w.heap.size, 0, none⟩ = some (.int .u8 5) ∧ w'.cell? ⟨w.heap.size, 1, none⟩ = some (.int .u8 fl) ∧ w'.cell? ⟨w.heap.size, 2, none⟩ = some (.int .u32 st) ∧ w'.cell? ⟨w.heap.size, 3, none⟩ = some (.slice a n cap)) w6.drew := ⟨HF6.out.cell 0, HF6.out.cell 1, HF6.out.cell 2, HF6.out.cell 3⟩
    refine wpAnyH_take (i := 0) (v := ?_) rfl (by kernel_rfl) (by kernel_rfl) (by kernel_rfl) (fun _ _ _ h => h) (Or.inl ⟨by kernel_rfl, ?_⟩) hS ?_
    rotate_left
    · intro wz ⟨_, _, _, _⟩; go_simp; try with_reducible rfl
    refine wpAnyH_take (i := 1) (v := ?_) rfl (by kernel_rfl) (by kernel_rfl) (by kernel_rfl) (fun _ _ _ h => h) (Or.inl ⟨by kernel_rfl, ?_⟩) hS ?_
    rotate_left
    · intro wz ⟨_, _, _, _⟩; go_simp; try with_reducible rfl
    refine wpAnyH_take (i := 3) (v := ?_) rfl (by kernel_rfl) (by kernel_rfl) (by kernel_rfl) (fun _ _ _ h => h) (Or.inl ⟨by kernel_rfl, ?_⟩) hS ?_
    rotate_left
    · intro wz ⟨_, _, _, _⟩; go_simp; try with_reducible rfl
    refine wpAnyH_take (i := 4) (v := ?_) rfl (by kernel_rfl) (by kernel_rfl) (by kernel_rfl) (fun _ _ _ h => h) (Or.inl ⟨by kernel_rfl, ?_⟩) hS ?_
    rotate_left
    · intro wz ⟨_, _, _, _⟩; go_simp; try with_reducible rfl
    refine wpAnyH_take (i := 5) (v := ?_) rfl (by kernel_rfl) (by kernel_rfl) (by kernel_rfl) (fun _ _ _ h => h) (Or.inl ⟨by kernel_rfl, ?_⟩) hS ?_
    rotate_left
    · intro wz ⟨_, _, _, _⟩; go_simp; try with_reducible rfl
    refine wpAnyH_take (i := 9) (v := ?_) rfl (by kernel_rfl) (by kernel_rfl) (by kernel_rfl) (fun _ _ _ h => h) (Or.inl ⟨by kernel_rfl, ?_⟩) hS ?_
    rotate_left
    · intro wz ⟨_, _, _, _⟩; go_simp; try with_reducible rfl
    refine wpAnyH_take (i := 10) (v := ?_) rfl (by kernel_rfl) (by kernel_rfl) (by kernel_rfl) (fun _ _ _ h => h) (Or.inl ⟨by kernel_rfl, ?_⟩) hS ?_
    rotate_left
    · intro wz ⟨_, _, _, _⟩; go_simp; try with_reducible rfl
    clear f0 f1 f2 f3
    refine held_call (i := 2) 17 #[.agg #[.int .u8 5, .int .u8 fl, .int .u32 st, .slice a n cap]] rfl (by kernel_rfl) (by kernel_rfl) (by kernel_rfl) ?_
    refine (ahead_is 5 fl st a n cap _ HA.out).mono ?_
    rintro e w7 ⟨rfl, hk7⟩
    have HF7 := Lib.hid ((Below.keeps hk7).blk HF6.out.drew (by omega))
    have HR7 := Lib.hid ((Below.keeps hk7).blk HR6.out.drew (by omega))
    have HX7 := Lib.hid (By.grow (w := w6.drew) (By.drew' HX6.out) hk7)
    have HY7 := Lib.hid (By.grow (w := w6.drew) (By.drew' HY6.out) hk7)
    have HK7 := Lib.hid (HKd.out.trans (hk7.mono HKd.out.size))
    have hs7 : w.heap.size + 2 ≤ w7.heap.size := Nat.le_trans hsd hk7.size
    clear hk7 hS
    have hS : (fun w' : World => w'.cell? ⟨w.heap.size, 0, none⟩ = some (.int .u8 5) ∧ w'.cell? ⟨w.heap.size, 1, none⟩ = some (.int .u8 fl) ∧ w'.cell? ⟨w.heap.size, 2, none⟩ = some (.int .u32 st) ∧ w'.cell? ⟨w.heap.size, 3, none⟩ = some (.slice a n cap)) w7 := ⟨HF7.out.cell 0, HF7.out.cell 1, HF7.out.cell 2, HF7.out.cell 3⟩
    refine ⟨_, rfl, hS, ?_⟩
    refine held_call (i := 6) 16 #[.agg #[.int .u8 5, .int .u8 fl, .int .u32 st, .slice a n cap]] rfl (by kernel_rfl) (by kernel_rfl) (by kernel_rfl) ?_
    refine (pad_is 5 fl st a n cap xs w7 HX7.out (fun h => by rw [HFL.out] at h; cases h) HP.out).mono ?_
    rintro e w8 ⟨rfl, hk8⟩
    have HF8 := Lib.hid ((Below.keeps hk8).blk HF7.out (by omega))
    have HR8 := Lib.hid ((Below.keeps hk8).blk HR7.out (by omega))
    have HX8 := Lib.hid (By.grow (w := w7) HX7.out hk8)
    have HY8 := Lib.hid (By.grow (w := w7) HY7.out hk8)
    have HK8 := Lib.hid (HK7.out.trans (hk8.mono HK7.out.size))
    have hs8 : w.heap.size + 2 ≤ w8.heap.size := Nat.le_trans hs7 hk8.size
    clear hk8 hS
    have hS : (fun w' : World => w'.cell? ⟨w.heap.size, 0, none⟩ = some (.int .u8 5) ∧ w'.cell? ⟨w.heap.size, 1, none⟩ = some (.int .u8 fl) ∧ w'.cell? ⟨w.heap.size, 2, none⟩ = some (.int .u32 st) ∧ w'.cell? ⟨w.heap.size, 3, none⟩ = some (.slice a n cap)) w8 := ⟨HF8.out.cell 0, HF8.out.cell 1, HF8.out.cell 2, HF8.out.cell 3⟩
    refine ⟨_, rfl, hS, ?_⟩
    refine wpAnyH_take (i := 7) (v := ?_) rfl (by kernel_rfl) (by kernel_rfl) (by kernel_rfl) (fun _ _ _ h => h) (Or.inl ⟨by kernel_rfl, ?_⟩) hS ?_
    rotate_left
    · intro wz ⟨_, _, _, _⟩; go_simp; try with_reducible rfl
    refine wpAnyH_take (i := 8) (v := ?_) rfl (by kernel_rfl) (by kernel_rfl) (by kernel_rfl) (fun _ _ _ h => h) (Or.inl ⟨by kernel_rfl, ?_⟩) hS ?_
    rotate_left
    · intro wz ⟨_, _, _, _⟩; go_simp; try with_reducible rfl
    refine held_call (i := 11) 17 #[.agg #[.int .u8 5, .int .u8 fl, .int .u32 st, .slice a n cap]] rfl (by kernel_rfl) (by kernel_rfl) (by kernel_rfl) ?_
    refine (ahead_is 5 fl st a n cap _ HA.out).mono ?_
    rintro e w9 ⟨rfl, hk9⟩
    have HF9 := Lib.hid ((Below.keeps hk9).blk HF8.out (by omega))
    have HR9 := Lib.hid ((Below.keeps hk9).blk HR8.out (by omega))
    have HX9 := Lib.hid (By.grow (w := w8) HX8.out hk9)
    have HY9 := Lib.hid (By.grow (w := w8) HY8.out hk9)
    have HK9 := Lib.hid (HK8.out.trans (hk9.mono HK8.out.size))
    have hs9 : w.heap.size + 2 ≤ w9.heap.size := Nat.le_trans hs8 hk9.size
    clear hk9 hS
    have hS : (fun w' : World => w'.cell? ⟨w.heap.size, 0, none⟩ = some (.int .u8 5) ∧ w'.cell? ⟨w.heap.size, 1, none⟩ = some (.int .u8 fl) ∧ w'.cell? ⟨w.heap.size, 2, none⟩ = some (.int .u32 st) ∧ w'.cell? ⟨w.heap.size, 3, none⟩ = some (.slice a n cap)) w9 := ⟨HF9.out.cell 0, HF9.out.cell 1, HF9.out.cell 2, HF9.out.cell 3⟩
    refine ⟨_, rfl, hS, ?_⟩
    refine wpAnyH_take (i := 12) (v := ?_) rfl (by kernel_rfl) (by kernel_rfl) (by kernel_rfl) (fun _ _ _ h => h) (Or.inl ⟨by kernel_rfl, ?_⟩) hS ?_
    rotate_left
    · intro wz ⟨_, _, _, _⟩; go_simp; try with_reducible rfl
    refine wpAnyH_take (i := 13) (v := ?_) rfl (by kernel_rfl) (by kernel_rfl) (by kernel_rfl) (fun _ _ _ h => h) (Or.inl ⟨by kernel_rfl, ?_⟩) hS ?_
    rotate_left
    · intro wz ⟨_, _, _, _⟩; go_simp; try with_reducible rfl
    refine held_call (i := 14) 26 #[.slice (some ⟨b, off, none⟩) n c6] rfl (by kernel_rfl) (by kernel_rfl) (by kernel_rfl) ?_
    refine (number_any _ _ _ _ _ HY9.out).mono ?_
    rintro e w10 ⟨⟨v, rfl, _⟩, rfl⟩
    refine ⟨_, rfl, hS, ?_⟩
    refine wpAnyH_take (i := 15) (v := ?_) rfl (by kernel_rfl) (by kernel_rfl) (by kernel_rfl) (fun _ _ _ h => h) (Or.inl ⟨by kernel_rfl, ?_⟩) hS ?_
    rotate_left
    · intro wz ⟨_, _, _, _⟩; go_simp; try with_reducible rfl
    refine wpAnyH_take (i := 16) (v := ?_) rfl (by kernel_rfl) (by kernel_rfl) (by kernel_rfl) (fun _ _ _ h => h) (Or.inl ⟨by kernel_rfl, ?_⟩) hS ?_
    rotate_left
    · intro wz ⟨_, _, _, _⟩; go_simp; try with_reducible rfl
    obtain ⟨⟨p0, p1, p2, p3, p4⟩, z0, z1, z2, z3, z4⟩ := pay_cells HR9.out
    have HBF := Lib.hid (pay_set HR9.out (.slice (some ⟨b, off + 4, none⟩) (n - 4) (c6 - 4)) (.slice none 0 0) (.int .u32 0) (.int .u32 (bits .and .u32 v 2147483647)) (.int .u32 0))
    have HKF := Lib.hid (Keeps.below HK9.out (pay_keep w9 (w.heap.size + 1) (.slice (some ⟨b, off + 4, none⟩) (n - 4) (c6 - 4)) (.slice none 0 0) (.int .u32 0) (.int .u32 (bits .and .u32 v 2147483647)) (.int .u32 0)) HK9.out.size (fun k hk => by omega))
    refine held_skip (i := 17) (((((w9.setCell ⟨w.heap.size + 1, 0, none⟩ (.slice (some ⟨b, off + 4, none⟩) (n - 4) (c6 - 4))).setCell ⟨w.heap.size + 1, 1, none⟩ (.slice none 0 0)).setCell ⟨w.heap.size + 1, 2, none⟩ (.int .u32 0)).setCell ⟨w.heap.size + 1, 3, none⟩ (.int .u32 (bits .and .u32 v 2147483647))).setCell ⟨w.heap.size + 1, 4, none⟩ (.int .u32 0)) rfl (by kernel_rfl) (by kernel_rfl) ?_ ?_ ?_
    · go_simp; try with_reducible rfl
    · have HFE := Lib.hid ((pay_keep w9 (w.heap.size + 1) (.slice (some ⟨b, off + 4, none⟩) (n - 4) (c6 - 4)) (.slice none 0 0) (.int .u32 0) (.int .u32 (bits .and .u32 v 2147483647)) (.int .u32 0)).blk HF9.out (by omega))
      exact ⟨HFE.out.cell 0, HFE.out.cell 1, HFE.out.cell 2, HFE.out.cell 3⟩
    refine wpAnyH_done (by kernel_rfl) ?_ _
    clear p0 p1 p2 p3 p4 z0 z1 z2 z3 z4 hS
    obtain ⟨⟨s0, s1, s2, s3, s4⟩, _⟩ := pay_cells HBF.out
    go_wp2_with fail
    (try simp only [Exit.inBlock, Exit.then])
    refine bodyPost_ret (by simp [results, Try.results18, go_sem, s0, s1, s2, s3, s4]; try rfl) rfl ?_
    exact ⟨_, _, _, _, _, _, _, _, rfl, HKF.out⟩

end Go.Proofs.Ytcckdahpagkbaaa
