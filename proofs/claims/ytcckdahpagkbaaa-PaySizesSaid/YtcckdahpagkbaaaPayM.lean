/- A payload that is right, told: the types without padding. -/
import Derived.Test.YtcckdahpagkbaaaPayD
namespace Go.Proofs.Ytcckdahpagkbaaa
open Go.RowKit Go.Deep

/-- A payload that says no increment. -/
def Tol (w : World) (e : Ending) (w' : World) : Prop :=
  ∃ (a5 : Option Addr) (n5 c5 : Nat) (b5 : Option Addr) (m5 d5 : Nat) (c s : Int), e = .returned (PyV a5 n5 c5 b5 m5 d5 c s 0) ∧ Below w.heap.size w w'

theorem numF_zero : ∀ k : Nat, numF 0 (List.replicate k 0) = 0
  | 0 => rfl
  | k + 1 => by
    rw [List.replicate_succ]
    exact numF_zero k

/-- Four bytes as a number. -/
theorem number_any (a : Option Addr) (n cap : Nat) (xs : List UInt8) (w : World) (hb : By w a n cap xs) :
    Calls Try.prog 26 #[.slice a n cap] w fun e w' => (∃ v, e = .returned (.int .u32 v) ∧ (xs = List.replicate n 0 → v = 0)) ∧ w = w' := by
  have HB := Lib.hid hb
  clear hb
  go_enter Try.func26, Try.ntmps26
  go_wp2_with fail
  refine (readbig_any a n cap xs 4 w HB.out).mono ?_
  rintro e w1 ⟨rfl, rfl⟩
  go_wp2_with fail
  go_returns
  refine ⟨⟨_, rfl, fun h => ?_⟩, rfl⟩
  have hv : rbV xs 4 = 0 := by
    unfold rbV
    split
    · rw [h, List.take_replicate]; exact numF_zero _
    · rfl
  rw [hv]
  rfl

set_option maxHeartbeats 3200000 in
theorem told_9 (fl st : Int) (a : Option Addr) (n cap : Nat) (xs : List UInt8) (w : World) (hx : By w a n cap xs) (hn : n ≤ 1000000) :
    Calls Try.prog 18 #[FrV 9 fl st a n cap] w (Tol w) := by
  have hk0 := ((Below.refl w.heap.size w).alloc (Nat.le_refl _) (.cells #[.int .u8 9, .int .u8 fl, .int .u32 st, .slice a n cap] 30 (0, 0))).alloc (by simp) (.cells #[.slice none 0 0, .slice none 0 0, .int .u32 0, .int .u32 0, .int .u32 0] 33 (0, 0))
  have hb0 := (Blk.new w #[.int .u8 9, .int .u8 fl, .int .u32 st, .slice a n cap] 30).alloc (.cells #[.slice none 0 0, .slice none 0 0, .int .u32 0, .int .u32 0, .int .u32 0] 33 (0, 0))
  have hb1 := Blk.new (w.alloc (.cells #[.int .u8 9, .int .u8 fl, .int .u32 st, .slice a n cap] 30 (0, 0))) #[.slice none 0 0, .slice none 0 0, .int .u32 0, .int .u32 0, .int .u32 0] 33
  rw [World.size_alloc] at hb1
  have HK0 := Lib.hid hk0
  have HB0 := Lib.hid hb0
  have HB1 := Lib.hid hb1
  have HX := Lib.hid hx
  clear hk0 hb0 hb1 hx
  unfold FrV
  go_enter Try.func18, Try.ntmps18
  go_wp2_with (at_builtin; refine halt ?_)
  refine Halted.go (wpList_copy8 _ rfl _ rfl a n cap xs rfl ((HX.out.alloc _).alloc _) (by omega) ?_)
  intro a6 c6 w6 ho6 hk6
  have hs0 : ((w.alloc (.cells #[.int .u8 9, .int .u8 fl, .int .u32 st, .slice a n cap] 30 (0, 0))).alloc (.cells #[.slice none 0 0, .slice none 0 0, .int .u32 0, .int .u32 0, .int .u32 0] 33 (0, 0))).heap.size = w.heap.size + 2 := by simp
  have HF6 := Lib.hid ((Below.keeps hk6).blk HB0.out (by rw [hs0]; omega))
  have HR6 := Lib.hid ((Below.keeps hk6).blk HB1.out (by rw [hs0]; omega))
  have HK6 := Lib.hid (HK0.out.trans (hk6.mono (by rw [hs0]; omega)))
  rw [hs0] at ho6
  have HO6 := Lib.hid ho6
  have hs6 : w.heap.size + 2 ≤ w6.heap.size := by have := hk6.size; rw [hs0] at this; exact this
  have hf6 := HF6.out
  have f0 : w6.cell? ⟨w.heap.size, 0, none⟩ = some (.int .u8 9) := hf6.cell 0
  have f1 : w6.cell? ⟨w.heap.size, 1, none⟩ = some (.int .u8 fl) := hf6.cell 1
  have f2 : w6.cell? ⟨w.heap.size, 2, none⟩ = some (.int .u32 st) := hf6.cell 2
  have f3 : w6.cell? ⟨w.heap.size, 3, none⟩ = some (.slice a n cap) := hf6.cell 3
  have HX6 := Lib.hid (((HX.out.alloc _).alloc _).grow hk6)
  clear hs0 ho6 hk6 hf6 HK0 HB0 HB1 HX
  obtain ⟨⟨p0, p1, p2, p3, p4⟩, z0, z1, z2, z3, z4⟩ := pay_cells HR6.out
  have HBF := Lib.hid (pay_set HR6.out (.slice a6 n c6) (.slice none 0 0) (.int .u32 0) (.int .u32 0) (.int .u32 0))
  have HKF := Lib.hid (Keeps.below HK6.out (pay_keep w6 (w.heap.size + 1) (.slice a6 n c6) (.slice none 0 0) (.int .u32 0) (.int .u32 0) (.int .u32 0)) HK6.out.size (fun k hk => by omega))
  go_wp2_with fail
  clear p0 p1 p2 p3 p4 z0 z1 z2 z3 z4 f0 f1 f2 f3
  obtain ⟨⟨s0, s1, s2, s3, s4⟩, _⟩ := pay_cells HBF.out
  (try simp only [Exit.inBlock, Exit.then])
  refine bodyPost_ret (by simp [results, Try.results18, go_sem, s0, s1, s2, s3, s4]; try rfl) rfl ?_
  exact ⟨_, _, _, _, _, _, _, _, rfl, HKF.out⟩

set_option maxHeartbeats 3200000 in
theorem told_6 (fl st : Int) (a : Option Addr) (n cap : Nat) (xs : List UInt8) (w : World) (hx : By w a n cap xs) (hn : n ≤ 1000000) :
    Calls Try.prog 18 #[FrV 6 fl st a n cap] w (Tol w) := by
  have hk0 := ((Below.refl w.heap.size w).alloc (Nat.le_refl _) (.cells #[.int .u8 6, .int .u8 fl, .int .u32 st, .slice a n cap] 30 (0, 0))).alloc (by simp) (.cells #[.slice none 0 0, .slice none 0 0, .int .u32 0, .int .u32 0, .int .u32 0] 33 (0, 0))
  have hb0 := (Blk.new w #[.int .u8 6, .int .u8 fl, .int .u32 st, .slice a n cap] 30).alloc (.cells #[.slice none 0 0, .slice none 0 0, .int .u32 0, .int .u32 0, .int .u32 0] 33 (0, 0))
  have hb1 := Blk.new (w.alloc (.cells #[.int .u8 6, .int .u8 fl, .int .u32 st, .slice a n cap] 30 (0, 0))) #[.slice none 0 0, .slice none 0 0, .int .u32 0, .int .u32 0, .int .u32 0] 33
  rw [World.size_alloc] at hb1
  have HK0 := Lib.hid hk0
  have HB0 := Lib.hid hb0
  have HB1 := Lib.hid hb1
  have HX := Lib.hid hx
  clear hk0 hb0 hb1 hx
  unfold FrV
  go_enter Try.func18, Try.ntmps18
  go_wp2_with (at_builtin; refine halt ?_)
  refine Halted.go (wpList_copy8 _ rfl _ rfl a n cap xs rfl ((HX.out.alloc _).alloc _) (by omega) ?_)
  intro a6 c6 w6 ho6 hk6
  have hs0 : ((w.alloc (.cells #[.int .u8 6, .int .u8 fl, .int .u32 st, .slice a n cap] 30 (0, 0))).alloc (.cells #[.slice none 0 0, .slice none 0 0, .int .u32 0, .int .u32 0, .int .u32 0] 33 (0, 0))).heap.size = w.heap.size + 2 := by simp
  have HF6 := Lib.hid ((Below.keeps hk6).blk HB0.out (by rw [hs0]; omega))
  have HR6 := Lib.hid ((Below.keeps hk6).blk HB1.out (by rw [hs0]; omega))
  have HK6 := Lib.hid (HK0.out.trans (hk6.mono (by rw [hs0]; omega)))
  rw [hs0] at ho6
  have HO6 := Lib.hid ho6
  have hs6 : w.heap.size + 2 ≤ w6.heap.size := by have := hk6.size; rw [hs0] at this; exact this
  have hf6 := HF6.out
  have f0 : w6.cell? ⟨w.heap.size, 0, none⟩ = some (.int .u8 6) := hf6.cell 0
  have f1 : w6.cell? ⟨w.heap.size, 1, none⟩ = some (.int .u8 fl) := hf6.cell 1
  have f2 : w6.cell? ⟨w.heap.size, 2, none⟩ = some (.int .u32 st) := hf6.cell 2
  have f3 : w6.cell? ⟨w.heap.size, 3, none⟩ = some (.slice a n cap) := hf6.cell 3
  have HX6 := Lib.hid (((HX.out.alloc _).alloc _).grow hk6)
  clear hs0 ho6 hk6 hf6 HK0 HB0 HB1 HX
  obtain ⟨⟨p0, p1, p2, p3, p4⟩, z0, z1, z2, z3, z4⟩ := pay_cells HR6.out
  have HBF := Lib.hid (pay_set HR6.out (.slice a6 n c6) (.slice none 0 0) (.int .u32 0) (.int .u32 0) (.int .u32 0))
  have HKF := Lib.hid (Keeps.below HK6.out (pay_keep w6 (w.heap.size + 1) (.slice a6 n c6) (.slice none 0 0) (.int .u32 0) (.int .u32 0) (.int .u32 0)) HK6.out.size (fun k hk => by omega))
  go_wp2_with fail
  clear p0 p1 p2 p3 p4 z0 z1 z2 z3 z4 f0 f1 f2 f3
  obtain ⟨⟨s0, s1, s2, s3, s4⟩, _⟩ := pay_cells HBF.out
  (try simp only [Exit.inBlock, Exit.then])
  refine bodyPost_ret (by simp [results, Try.results18, go_sem, s0, s1, s2, s3, s4]; try rfl) rfl ?_
  exact ⟨_, _, _, _, _, _, _, _, rfl, HKF.out⟩

set_option maxHeartbeats 3200000 in
theorem told_2 (fl st : Int) (a : Option Addr) (n cap : Nat) (xs : List UInt8) (w : World) (hx : By w a n cap xs) (hn : n ≤ 1000000) :
    Calls Try.prog 18 #[FrV 2 fl st a n cap] w (Tol w) := by
  have hk0 := ((Below.refl w.heap.size w).alloc (Nat.le_refl _) (.cells #[.int .u8 2, .int .u8 fl, .int .u32 st, .slice a n cap] 30 (0, 0))).alloc (by simp) (.cells #[.slice none 0 0, .slice none 0 0, .int .u32 0, .int .u32 0, .int .u32 0] 33 (0, 0))
  have hb0 := (Blk.new w #[.int .u8 2, .int .u8 fl, .int .u32 st, .slice a n cap] 30).alloc (.cells #[.slice none 0 0, .slice none 0 0, .int .u32 0, .int .u32 0, .int .u32 0] 33 (0, 0))
  have hb1 := Blk.new (w.alloc (.cells #[.int .u8 2, .int .u8 fl, .int .u32 st, .slice a n cap] 30 (0, 0))) #[.slice none 0 0, .slice none 0 0, .int .u32 0, .int .u32 0, .int .u32 0] 33
  rw [World.size_alloc] at hb1
  have HK0 := Lib.hid hk0
  have HB0 := Lib.hid hb0
  have HB1 := Lib.hid hb1
  have HX := Lib.hid hx
  clear hk0 hb0 hb1 hx
  unfold FrV
  go_enter Try.func18, Try.ntmps18
  go_wp2_with (at_builtin; refine halt ?_)
  refine Halted.go (wpList_copy8 _ rfl _ rfl a n cap xs rfl ((HX.out.alloc _).alloc _) (by omega) ?_)
  intro a6 c6 w6 ho6 hk6
  have hs0 : ((w.alloc (.cells #[.int .u8 2, .int .u8 fl, .int .u32 st, .slice a n cap] 30 (0, 0))).alloc (.cells #[.slice none 0 0, .slice none 0 0, .int .u32 0, .int .u32 0, .int .u32 0] 33 (0, 0))).heap.size = w.heap.size + 2 := by simp
  have HF6 := Lib.hid ((Below.keeps hk6).blk HB0.out (by rw [hs0]; omega))
  have HR6 := Lib.hid ((Below.keeps hk6).blk HB1.out (by rw [hs0]; omega))
  have HK6 := Lib.hid (HK0.out.trans (hk6.mono (by rw [hs0]; omega)))
  rw [hs0] at ho6
  have HO6 := Lib.hid ho6
  have hs6 : w.heap.size + 2 ≤ w6.heap.size := by have := hk6.size; rw [hs0] at this; exact this
  have hf6 := HF6.out
  have f0 : w6.cell? ⟨w.heap.size, 0, none⟩ = some (.int .u8 2) := hf6.cell 0
  have f1 : w6.cell? ⟨w.heap.size, 1, none⟩ = some (.int .u8 fl) := hf6.cell 1
  have f2 : w6.cell? ⟨w.heap.size, 2, none⟩ = some (.int .u32 st) := hf6.cell 2
  have f3 : w6.cell? ⟨w.heap.size, 3, none⟩ = some (.slice a n cap) := hf6.cell 3
  have HX6 := Lib.hid (((HX.out.alloc _).alloc _).grow hk6)
  clear hs0 ho6 hk6 hf6 HK0 HB0 HB1 HX
  go_wp2_with fail
  refine (number_any a6 n c6 xs w6 HO6.out.by).mono ?_
  rintro e w7 ⟨⟨v, rfl, _⟩, rfl⟩
  obtain ⟨⟨p0, p1, p2, p3, p4⟩, z0, z1, z2, z3, z4⟩ := pay_cells HR6.out
  have HBF := Lib.hid (pay_set HR6.out (.slice none 0 0) (.slice none 0 0) (.int .u32 0) (.int .u32 (bits .and .u32 v 2147483647)) (.int .u32 0))
  have HKF := Lib.hid (Keeps.below HK6.out (pay_keep w6 (w.heap.size + 1) (.slice none 0 0) (.slice none 0 0) (.int .u32 0) (.int .u32 (bits .and .u32 v 2147483647)) (.int .u32 0)) HK6.out.size (fun k hk => by omega))
  go_wp2_with fail
  clear p0 p1 p2 p3 p4 z0 z1 z2 z3 z4 f0 f1 f2 f3
  obtain ⟨⟨s0, s1, s2, s3, s4⟩, _⟩ := pay_cells HBF.out
  (try simp only [Exit.inBlock, Exit.then])
  refine bodyPost_ret (by simp [results, Try.results18, go_sem, s0, s1, s2, s3, s4]; try rfl) rfl ?_
  exact ⟨_, _, _, _, _, _, _, _, rfl, HKF.out⟩

set_option maxHeartbeats 3200000 in
theorem told_3 (fl st : Int) (a : Option Addr) (n cap : Nat) (xs : List UInt8) (w : World) (hx : By w a n cap xs) (hn : n ≤ 1000000) :
    Calls Try.prog 18 #[FrV 3 fl st a n cap] w (Tol w) := by
  have hk0 := ((Below.refl w.heap.size w).alloc (Nat.le_refl _) (.cells #[.int .u8 3, .int .u8 fl, .int .u32 st, .slice a n cap] 30 (0, 0))).alloc (by simp) (.cells #[.slice none 0 0, .slice none 0 0, .int .u32 0, .int .u32 0, .int .u32 0] 33 (0, 0))
  have hb0 := (Blk.new w #[.int .u8 3, .int .u8 fl, .int .u32 st, .slice a n cap] 30).alloc (.cells #[.slice none 0 0, .slice none 0 0, .int .u32 0, .int .u32 0, .int .u32 0] 33 (0, 0))
  have hb1 := Blk.new (w.alloc (.cells #[.int .u8 3, .int .u8 fl, .int .u32 st, .slice a n cap] 30 (0, 0))) #[.slice none 0 0, .slice none 0 0, .int .u32 0, .int .u32 0, .int .u32 0] 33
  rw [World.size_alloc] at hb1
  have HK0 := Lib.hid hk0
  have HB0 := Lib.hid hb0
  have HB1 := Lib.hid hb1
  have HX := Lib.hid hx
  clear hk0 hb0 hb1 hx
  unfold FrV
  go_enter Try.func18, Try.ntmps18
  go_wp2_with (at_builtin; refine halt ?_)
  refine Halted.go (wpList_copy8 _ rfl _ rfl a n cap xs rfl ((HX.out.alloc _).alloc _) (by omega) ?_)
  intro a6 c6 w6 ho6 hk6
  have hs0 : ((w.alloc (.cells #[.int .u8 3, .int .u8 fl, .int .u32 st, .slice a n cap] 30 (0, 0))).alloc (.cells #[.slice none 0 0, .slice none 0 0, .int .u32 0, .int .u32 0, .int .u32 0] 33 (0, 0))).heap.size = w.heap.size + 2 := by simp
  have HF6 := Lib.hid ((Below.keeps hk6).blk HB0.out (by rw [hs0]; omega))
  have HR6 := Lib.hid ((Below.keeps hk6).blk HB1.out (by rw [hs0]; omega))
  have HK6 := Lib.hid (HK0.out.trans (hk6.mono (by rw [hs0]; omega)))
  rw [hs0] at ho6
  have HO6 := Lib.hid ho6
  have hs6 : w.heap.size + 2 ≤ w6.heap.size := by have := hk6.size; rw [hs0] at this; exact this
  have hf6 := HF6.out
  have f0 : w6.cell? ⟨w.heap.size, 0, none⟩ = some (.int .u8 3) := hf6.cell 0
  have f1 : w6.cell? ⟨w.heap.size, 1, none⟩ = some (.int .u8 fl) := hf6.cell 1
  have f2 : w6.cell? ⟨w.heap.size, 2, none⟩ = some (.int .u32 st) := hf6.cell 2
  have f3 : w6.cell? ⟨w.heap.size, 3, none⟩ = some (.slice a n cap) := hf6.cell 3
  have HX6 := Lib.hid (((HX.out.alloc _).alloc _).grow hk6)
  clear hs0 ho6 hk6 hf6 HK0 HB0 HB1 HX
  go_wp2_with fail
  refine (number_any a6 n c6 xs w6 HO6.out.by).mono ?_
  rintro e w7 ⟨⟨v, rfl, _⟩, rfl⟩
  obtain ⟨⟨p0, p1, p2, p3, p4⟩, z0, z1, z2, z3, z4⟩ := pay_cells HR6.out
  have HBF := Lib.hid (pay_set HR6.out (.slice none 0 0) (.slice none 0 0) (.int .u32 v) (.int .u32 0) (.int .u32 0))
  have HKF := Lib.hid (Keeps.below HK6.out (pay_keep w6 (w.heap.size + 1) (.slice none 0 0) (.slice none 0 0) (.int .u32 v) (.int .u32 0) (.int .u32 0)) HK6.out.size (fun k hk => by omega))
  go_wp2_with fail
  clear p0 p1 p2 p3 p4 z0 z1 z2 z3 z4 f0 f1 f2 f3
  obtain ⟨⟨s0, s1, s2, s3, s4⟩, _⟩ := pay_cells HBF.out
  (try simp only [Exit.inBlock, Exit.then])
  refine bodyPost_ret (by simp [results, Try.results18, go_sem, s0, s1, s2, s3, s4]; try rfl) rfl ?_
  exact ⟨_, _, _, _, _, _, _, _, rfl, HKF.out⟩

set_option maxHeartbeats 3200000 in
theorem told_8 (fl st : Int) (a : Option Addr) (n cap : Nat) (xs : List UInt8) (w : World) (hx : By w a n cap xs) (hn : n ≤ 1000000) (hz : xs = List.replicate n 0) :
    Calls Try.prog 18 #[FrV 8 fl st a n cap] w (Tol w) := by
  have hk0 := ((Below.refl w.heap.size w).alloc (Nat.le_refl _) (.cells #[.int .u8 8, .int .u8 fl, .int .u32 st, .slice a n cap] 30 (0, 0))).alloc (by simp) (.cells #[.slice none 0 0, .slice none 0 0, .int .u32 0, .int .u32 0, .int .u32 0] 33 (0, 0))
  have hb0 := (Blk.new w #[.int .u8 8, .int .u8 fl, .int .u32 st, .slice a n cap] 30).alloc (.cells #[.slice none 0 0, .slice none 0 0, .int .u32 0, .int .u32 0, .int .u32 0] 33 (0, 0))
  have hb1 := Blk.new (w.alloc (.cells #[.int .u8 8, .int .u8 fl, .int .u32 st, .slice a n cap] 30 (0, 0))) #[.slice none 0 0, .slice none 0 0, .int .u32 0, .int .u32 0, .int .u32 0] 33
  rw [World.size_alloc] at hb1
  have HK0 := Lib.hid hk0
  have HB0 := Lib.hid hb0
  have HB1 := Lib.hid hb1
  have HX := Lib.hid hx
  clear hk0 hb0 hb1 hx
  unfold FrV
  go_enter Try.func18, Try.ntmps18
  go_wp2_with (at_builtin; refine halt ?_)
  refine Halted.go (wpList_copy8 _ rfl _ rfl a n cap xs rfl ((HX.out.alloc _).alloc _) (by omega) ?_)
  intro a6 c6 w6 ho6 hk6
  have hs0 : ((w.alloc (.cells #[.int .u8 8, .int .u8 fl, .int .u32 st, .slice a n cap] 30 (0, 0))).alloc (.cells #[.slice none 0 0, .slice none 0 0, .int .u32 0, .int .u32 0, .int .u32 0] 33 (0, 0))).heap.size = w.heap.size + 2 := by simp
  have HF6 := Lib.hid ((Below.keeps hk6).blk HB0.out (by rw [hs0]; omega))
  have HR6 := Lib.hid ((Below.keeps hk6).blk HB1.out (by rw [hs0]; omega))
  have HK6 := Lib.hid (HK0.out.trans (hk6.mono (by rw [hs0]; omega)))
  rw [hs0] at ho6
  have HO6 := Lib.hid ho6
  have hs6 : w.heap.size + 2 ≤ w6.heap.size := by have := hk6.size; rw [hs0] at this; exact this
  have hf6 := HF6.out
  have f0 : w6.cell? ⟨w.heap.size, 0, none⟩ = some (.int .u8 8) := hf6.cell 0
  have f1 : w6.cell? ⟨w.heap.size, 1, none⟩ = some (.int .u8 fl) := hf6.cell 1
  have f2 : w6.cell? ⟨w.heap.size, 2, none⟩ = some (.int .u32 st) := hf6.cell 2
  have f3 : w6.cell? ⟨w.heap.size, 3, none⟩ = some (.slice a n cap) := hf6.cell 3
  have HX6 := Lib.hid (((HX.out.alloc _).alloc _).grow hk6)
  clear hs0 ho6 hk6 hf6 HK0 HB0 HB1 HX
  have HZ := Lib.hid hz
  clear hz
  go_wp2_with fail
  refine (number_any a6 n c6 xs w6 HO6.out.by).mono ?_
  rintro e w7 ⟨⟨v, rfl, hv⟩, rfl⟩
  obtain rfl : v = 0 := hv HZ.out
  have hb0 : bits .and .u32 0 2147483647 = 0 := by decide +kernel
  clear hv
  obtain ⟨⟨p0, p1, p2, p3, p4⟩, z0, z1, z2, z3, z4⟩ := pay_cells HR6.out
  have HBF := Lib.hid (pay_set HR6.out (.slice none 0 0) (.slice none 0 0) (.int .u32 0) (.int .u32 0) (.int .u32 0))
  have HKF := Lib.hid (Keeps.below HK6.out (pay_keep w6 (w.heap.size + 1) (.slice none 0 0) (.slice none 0 0) (.int .u32 0) (.int .u32 0) (.int .u32 0)) HK6.out.size (fun k hk => by omega))
  go_wp2_with fail
  clear p0 p1 p2 p3 p4 z0 z1 z2 z3 z4 f0 f1 f2 f3
  obtain ⟨⟨s0, s1, s2, s3, s4⟩, _⟩ := pay_cells HBF.out
  (try simp only [Exit.inBlock, Exit.then])
  refine bodyPost_ret (by simp [results, Try.results18, go_sem, s0, s1, s2, s3, s4]; try rfl) rfl ?_
  exact ⟨_, _, _, _, _, _, _, _, rfl, HKF.out⟩

end Go.Proofs.Ytcckdahpagkbaaa
