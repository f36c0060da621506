/- A frame's payload read: refused, or data and headers. -/
import Derived.Test.YtcfljnlfikkhaaaPayC
import Derived.Deep.RegionHeld3
namespace Go.Proofs.Ytcfljnlfikkhaaa
open Go.RowKit Go.Deep

theorem By.drew' {w : World} {a : Option Addr} {n cap : Nat} {xs : List UInt8} (h : By w a n cap xs) : By w.drew a n cap xs := ⟨h.1, h.2.drew⟩
def Py0 : Value := PyV none 0 0 none 0 0 0 0 0

set_option maxHeartbeats 1600000 in
theorem read_zero (t fl st : Int) (a : Option Addr) (n cap : Nat) (w : World) (hz : zeroP t st = false) :
    Calls Try.prog 16 #[FrV t fl st a n cap] w fun e w' => e = .returned (.tuple #[Py0, .int .i64 2]) ∧ Below w.heap.size w w' := by
  have hk0 := ((Below.refl w.heap.size w).alloc (Nat.le_refl _) (.cells #[.int .u8 t, .int .u8 fl, .int .u32 st, .slice a n cap] 33 (0, 0))).alloc (by simp) (.cells #[.slice none 0 0, .slice none 0 0, .int .u32 0, .int .u32 0, .int .u32 0] 49 (0, 0))
  have hb1 := Blk.new (w.alloc (.cells #[.int .u8 t, .int .u8 fl, .int .u32 st, .slice a n cap] 33 (0, 0))) #[.slice none 0 0, .slice none 0 0, .int .u32 0, .int .u32 0, .int .u32 0] 49
  rw [World.size_alloc] at hb1
  have hs0 : ((w.alloc (.cells #[.int .u8 t, .int .u8 fl, .int .u32 st, .slice a n cap] 33 (0, 0))).alloc (.cells #[.slice none 0 0, .slice none 0 0, .int .u32 0, .int .u32 0, .int .u32 0] 49 (0, 0))).heap.size = w.heap.size + 2 := by simp
  have HK0 := Lib.hid hk0
  have HB1 := Lib.hid hb1
  have HS0 := Lib.hid hs0
  have hc := zero_any t fl st a n cap ((w.alloc (.cells #[.int .u8 t, .int .u8 fl, .int .u32 st, .slice a n cap] 33 (0, 0))).alloc (.cells #[.slice none 0 0, .slice none 0 0, .int .u32 0, .int .u32 0, .int .u32 0] 49 (0, 0)))
  rw [hz] at hc
  have HC := Lib.hid hc
  clear hk0 hb1 hs0 hc hz
  unfold FrV at *
  go_enter Try.func16, Try.ntmps16
  go_wp2_with fail
  refine HC.out.mono ?_
  rintro e w1 ⟨rfl, hk1⟩
  have HR1 := Lib.hid ((Below.keeps hk1).blk HB1.out (by rw [HS0.out]; omega))
  have HK1 := Lib.hid (HK0.out.trans (hk1.mono HK0.out.size))
  obtain ⟨⟨p0, p1, p2, p3, p4⟩, z0, z1, z2, z3, z4⟩ := pay_cells HR1.out
  have HBF := Lib.hid (pay_set HR1.out (.slice none 0 0) (.slice none 0 0) (.int .u32 0) (.int .u32 0) (.int .u32 0))
  have HKF := Lib.hid (Keeps.below HK1.out (pay_keep w1 (w.heap.size + 1) (.slice none 0 0) (.slice none 0 0) (.int .u32 0) (.int .u32 0) (.int .u32 0)) HK1.out.size (fun k hk => by omega))
  clear hk1
  go_wp2_with fail
  clear p0 p1 p2 p3 p4 z0 z1 z2 z3 z4
  obtain ⟨⟨s0, s1, s2, s3, s4⟩, _⟩ := pay_cells HBF.out
  (try simp only [Exit.inBlock, Exit.then])
  refine bodyPost_ret (by simp [results, Try.results16, go_sem, s0, s1, s2, s3, s4]; try rfl) rfl ?_
  exact ⟨rfl, HKF.out⟩

theorem zero_is (t fl st : Int) (a : Option Addr) (n cap : Nat) (w : World) {z : Bool} (h : zeroP t st = z) :
    Calls Try.prog 19 #[FrV t fl st a n cap] w fun e w' => e = .returned (.bool z) ∧ Below w.heap.size w w' := by
  subst h
  exact zero_any t fl st a n cap w
theorem size_is (t fl st : Int) (a : Option Addr) (n cap : Nat) (w : World) (hn : n ≤ 1099511627776) {z : Bool} (h : sizeP t fl n = z) :
    Calls Try.prog 20 #[FrV t fl st a n cap] w fun e w' => e = .returned (.bool z) ∧ Below w.heap.size w w' := by
  subst h
  exact size_any t fl st a n cap w hn

set_option maxHeartbeats 1600000 in
theorem read_size (t fl st : Int) (a : Option Addr) (n cap : Nat) (w : World) (hn : n ≤ 1000000) (hz : zeroP t st = true) (hg : sizeP t fl n = false) :
    Calls Try.prog 16 #[FrV t fl st a n cap] w fun e w' => e = .returned (.tuple #[Py0, .int .i64 1]) ∧ Below w.heap.size w w' := by
  have hk0 := ((Below.refl w.heap.size w).alloc (Nat.le_refl _) (.cells #[.int .u8 t, .int .u8 fl, .int .u32 st, .slice a n cap] 33 (0, 0))).alloc (by simp) (.cells #[.slice none 0 0, .slice none 0 0, .int .u32 0, .int .u32 0, .int .u32 0] 49 (0, 0))
  have hb0 := (Blk.new w #[.int .u8 t, .int .u8 fl, .int .u32 st, .slice a n cap] 33).alloc (.cells #[.slice none 0 0, .slice none 0 0, .int .u32 0, .int .u32 0, .int .u32 0] 49 (0, 0))
  have hb1 := Blk.new (w.alloc (.cells #[.int .u8 t, .int .u8 fl, .int .u32 st, .slice a n cap] 33 (0, 0))) #[.slice none 0 0, .slice none 0 0, .int .u32 0, .int .u32 0, .int .u32 0] 49
  rw [World.size_alloc] at hb1
  have hs0 : ((w.alloc (.cells #[.int .u8 t, .int .u8 fl, .int .u32 st, .slice a n cap] 33 (0, 0))).alloc (.cells #[.slice none 0 0, .slice none 0 0, .int .u32 0, .int .u32 0, .int .u32 0] 49 (0, 0))).heap.size = w.heap.size + 2 := by simp
  have HK0 := Lib.hid hk0
  have HB0 := Lib.hid hb0
  have HB1 := Lib.hid hb1
  have HS0 := Lib.hid hs0
  have HZ := Lib.hid hz
  have HG := Lib.hid hg
  clear hk0 hb0 hb1 hs0 hz hg
  unfold FrV
  go_enter Try.func16, Try.ntmps16
  go_wp2_with fail
  refine (zero_is t fl st a n cap _ HZ.out).mono ?_
  rintro e w1 ⟨rfl, hk1⟩
  have HF1 := Lib.hid ((Below.keeps hk1).blk HB0.out (by rw [HS0.out]; omega))
  have HR1 := Lib.hid ((Below.keeps hk1).blk HB1.out (by rw [HS0.out]; omega))
  have HK1 := Lib.hid (HK0.out.trans (hk1.mono HK0.out.size))
  have hs1 : w.heap.size + 2 ≤ w1.heap.size := by have := hk1.size; rw [HS0.out] at this; exact this
  clear hk1
  have f0 : w1.cell? ⟨w.heap.size, 0, none⟩ = _ := HF1.out.cell 0
  have f1 : w1.cell? ⟨w.heap.size, 1, none⟩ = _ := HF1.out.cell 1
  have f2 : w1.cell? ⟨w.heap.size, 2, none⟩ = _ := HF1.out.cell 2
  have f3 : w1.cell? ⟨w.heap.size, 3, none⟩ = _ := HF1.out.cell 3
  go_wp2_with fail
  refine (size_is t fl st a n cap w1 (by omega) HG.out).mono ?_
  rintro e w2 ⟨rfl, hk2⟩
  have HF2 := Lib.hid ((Below.keeps hk2).blk HF1.out (by omega))
  have HR2 := Lib.hid ((Below.keeps hk2).blk HR1.out (by omega))
  have HK2 := Lib.hid (HK1.out.trans (hk2.mono HK1.out.size))
  have hs2 : w.heap.size + 2 ≤ w2.heap.size := Nat.le_trans hs1 hk2.size
  clear hk2 f0 f1 f2 f3
  obtain ⟨⟨p0, p1, p2, p3, p4⟩, z0, z1, z2, z3, z4⟩ := pay_cells HR2.out
  have HBF := Lib.hid (pay_set HR2.out (.slice none 0 0) (.slice none 0 0) (.int .u32 0) (.int .u32 0) (.int .u32 0))
  have HKF := Lib.hid (Keeps.below HK2.out (pay_keep w2 (w.heap.size + 1) (.slice none 0 0) (.slice none 0 0) (.int .u32 0) (.int .u32 0) (.int .u32 0)) HK2.out.size (fun k hk => by omega))
  go_wp2_with fail
  clear p0 p1 p2 p3 p4 z0 z1 z2 z3 z4
  obtain ⟨⟨s0, s1, s2, s3, s4⟩, _⟩ := pay_cells HBF.out
  (try simp only [Exit.inBlock, Exit.then])
  refine bodyPost_ret (by simp [results, Try.results16, go_sem, s0, s1, s2, s3, s4]; try rfl) rfl ?_
  exact ⟨rfl, HKF.out⟩

set_option maxHeartbeats 3200000 in
/-- Data, headers: told. -/
theorem read_told (t fl st : Int) (a : Option Addr) (n cap : Nat) (xs : List UInt8) (ah pd hi : Nat) (w : World) (hx : By w a n cap xs) (hn : n ≤ 1000000) (ht : t = 0 ∨ t = 1) (hz : zeroP t st = true) (hg : sizeP t fl n = true) (ha : aheadI t fl = ah) (hp : padI t fl xs = pd) (hhi : n = hi + pd) (hl : ah ≤ hi) (h0 : padP t fl = true → 0 < n) :
    Calls Try.prog 16 #[FrV t fl st a n cap] w fun e w' => ∃ a' c', e = .returned (.tuple #[PyV a' (hi - ah) c' none 0 0 0 0 0, .int .i64 0]) ∧ By w' a' (hi - ah) c' ((xs.drop ah).take (hi - ah)) ∧ (∀ b, a'.map (·.block) = some b → w.heap.size ≤ b) ∧ Below w.heap.size w w' := by
  have hk0 := ((Below.refl w.heap.size w).alloc (Nat.le_refl _) (.cells #[.int .u8 t, .int .u8 fl, .int .u32 st, .slice a n cap] 33 (0, 0))).alloc (by simp) (.cells #[.slice none 0 0, .slice none 0 0, .int .u32 0, .int .u32 0, .int .u32 0] 49 (0, 0))
  have hb0 := (Blk.new w #[.int .u8 t, .int .u8 fl, .int .u32 st, .slice a n cap] 33).alloc (.cells #[.slice none 0 0, .slice none 0 0, .int .u32 0, .int .u32 0, .int .u32 0] 49 (0, 0))
  have hb1 := Blk.new (w.alloc (.cells #[.int .u8 t, .int .u8 fl, .int .u32 st, .slice a n cap] 33 (0, 0))) #[.slice none 0 0, .slice none 0 0, .int .u32 0, .int .u32 0, .int .u32 0] 49
  rw [World.size_alloc] at hb1
  have hs0 : ((w.alloc (.cells #[.int .u8 t, .int .u8 fl, .int .u32 st, .slice a n cap] 33 (0, 0))).alloc (.cells #[.slice none 0 0, .slice none 0 0, .int .u32 0, .int .u32 0, .int .u32 0] 49 (0, 0))).heap.size = w.heap.size + 2 := by simp
  have HK0 := Lib.hid hk0
  have HB0 := Lib.hid hb0
  have HB1 := Lib.hid hb1
  have HS0 := Lib.hid hs0
  have HZ := Lib.hid hz
  have HG := Lib.hid hg
  clear hk0 hb0 hb1 hs0 hz hg
  have HX := Lib.hid ((hx.alloc (.cells #[.int .u8 t, .int .u8 fl, .int .u32 st, .slice a n cap] 33 (0, 0))).alloc (.cells #[.slice none 0 0, .slice none 0 0, .int .u32 0, .int .u32 0, .int .u32 0] 49 (0, 0)))
  have HA := Lib.hid ha
  have HP := Lib.hid hp
  have H0 := Lib.hid h0
  have HHI := Lib.hid hhi
  clear hx ha hp h0 hhi
  unfold FrV
  go_enter Try.func16, Try.ntmps16
  go_wp2_with fail
  refine (zero_is t fl st a n cap _ HZ.out).mono ?_
  rintro e w1 ⟨rfl, hk1⟩
  have HF1 := Lib.hid ((Below.keeps hk1).blk HB0.out (by rw [HS0.out]; omega))
  have HR1 := Lib.hid ((Below.keeps hk1).blk HB1.out (by rw [HS0.out]; omega))
  have HK1 := Lib.hid (HK0.out.trans (hk1.mono HK0.out.size))
  have hs1 : w.heap.size + 2 ≤ w1.heap.size := by have := hk1.size; rw [HS0.out] at this; exact this
  have HX1 := Lib.hid (HX.out.grow hk1)
  clear hk1
  have f0 : w1.cell? ⟨w.heap.size, 0, none⟩ = _ := HF1.out.cell 0
  have f1 : w1.cell? ⟨w.heap.size, 1, none⟩ = _ := HF1.out.cell 1
  have f2 : w1.cell? ⟨w.heap.size, 2, none⟩ = _ := HF1.out.cell 2
  have f3 : w1.cell? ⟨w.heap.size, 3, none⟩ = _ := HF1.out.cell 3
  go_wp2_with fail
  refine (size_is t fl st a n cap w1 (by omega) HG.out).mono ?_
  rintro e w2 ⟨rfl, hk2⟩
  have HF2 := Lib.hid ((Below.keeps hk2).blk HF1.out (by omega))
  have HR2 := Lib.hid ((Below.keeps hk2).blk HR1.out (by omega))
  have HK2 := Lib.hid (HK1.out.trans (hk2.mono HK1.out.size))
  have hs2 : w.heap.size + 2 ≤ w2.heap.size := Nat.le_trans hs1 hk2.size
  have HX2 := Lib.hid (HX1.out.grow hk2)
  clear hk2 f0 f1 f2 f3
  have hsd : w.heap.size + 2 ≤ w2.drew.heap.size := hs2
  have hw1 : IntKind.i64.wrap ((n : Int) - (ah : Int)) = (n : Int) - (ah : Int) := by have := HHI.out; rw [IntKind.wrap_i64]; omega
  have hw2 : decide ((n : Int) - (ah : Int) < (pd : Int)) = false := by have := HHI.out; simp; omega
  go_upto_region 5 with fail
  have f0 : w2.drew.cell? ⟨w.heap.size, 0, none⟩ = some (.int .u8 t) := HF2.out.cell 0
  have f1 : w2.drew.cell? ⟨w.heap.size, 1, none⟩ = some (.int .u8 fl) := HF2.out.cell 1
  have f2 : w2.drew.cell? ⟨w.heap.size, 2, none⟩ = some (.int .u32 st) := HF2.out.cell 2
  have f3 : w2.drew.cell? ⟨w.heap.size, 3, none⟩ = some (.slice a n cap) := HF2.out.cell 3
  go_region_held3 (fun w' => w'.cell? ⟨w.heap.size, 0, none⟩ = some (.int .u8 t) ∧ w'.cell? ⟨w.heap.size, 1, none⟩ = some (.int .u8 fl) ∧ w'.cell? ⟨w.heap.size, 2, none⟩ = some (.int .u32 st) ∧ w'.cell? ⟨w.heap.size, 3, none⟩ = some (.slice a n cap)) (first | exact ⟨f0, f1, f2, f3⟩ | exact ⟨g0, g1, g2, g3⟩ | exact ⟨y0, y1, y2, y3⟩ | go_keep) (first
    | (go_at_call 21
       go_must (
         refine (pad_is t fl st a n cap xs _ (By.drew' HX2.out) H0.out HP.out).mono ?_
         rintro e w3 ⟨rfl, hk3⟩
         have HF3 := Lib.hid ((Below.keeps hk3).blk (HF2.out.drew) (by omega))
         have HR3 := Lib.hid ((Below.keeps hk3).blk (HR2.out.drew) (by omega))
         have HX3 := Lib.hid (By.grow (w := w2.drew) (By.drew' HX2.out) hk3)
         have HK3 := Lib.hid (HK2.out.drew.trans (hk3.mono HK2.out.size))
         have hs3 : w.heap.size + 2 ≤ w3.heap.size := Nat.le_trans hsd hk3.size
         have g0 : w3.cell? ⟨w.heap.size, 0, none⟩ = _ := HF3.out.cell 0
         have g1 : w3.cell? ⟨w.heap.size, 1, none⟩ = _ := HF3.out.cell 1
         have g2 : w3.cell? ⟨w.heap.size, 2, none⟩ = _ := HF3.out.cell 2
         have g3 : w3.cell? ⟨w.heap.size, 3, none⟩ = _ := HF3.out.cell 3
         clear hk3))
    | (go_at_call 22
       go_must (
         refine (ahead_is t fl st a n cap _ HA.out).mono ?_
         rintro e w4 ⟨rfl, hk4⟩
         have HF4 := Lib.hid ((Below.keeps hk4).blk HF3.out (by omega))
         have HR4 := Lib.hid ((Below.keeps hk4).blk HR3.out (by omega))
         have HX4 := Lib.hid (HX3.out.grow hk4)
         have HK4 := Lib.hid (HK3.out.trans (hk4.mono HK3.out.size))
         have hs4 : w.heap.size + 2 ≤ w4.heap.size := Nat.le_trans hs3 hk4.size
         have y0 : w4.cell? ⟨w.heap.size, 0, none⟩ = _ := HF4.out.cell 0
         have y1 : w4.cell? ⟨w.heap.size, 1, none⟩ = _ := HF4.out.cell 1
         have y2 : w4.cell? ⟨w.heap.size, 2, none⟩ = _ := HF4.out.cell 2
         have y3 : w4.cell? ⟨w.heap.size, 3, none⟩ = _ := HF4.out.cell 3
         clear hk4)))
  all_goals (
    clear f0 f1 f2 f3 g0 g1 g2 g3
    go_wp2_with fail
    refine (told_any t fl st a n cap xs ah pd hi w4 HX4.out hn ht HA.out HP.out HHI.out hl H0.out).mono ?_
    rintro e w5 ⟨a5, c5, rfl, hy5, hb5, hk5⟩
    unfold PyV
    have HR5 := Lib.hid (((Below.keeps hk5).blk HR4.out (by omega)).alloc (.cells #[.slice a5 (hi - ah) c5, .slice none 0 0, .int .u32 0, .int .u32 0, .int .u32 0] 49 (0, 0)))
    have HF5 := Lib.hid (((Below.keeps hk5).blk HF4.out (by omega)).alloc (.cells #[.slice a5 (hi - ah) c5, .slice none 0 0, .int .u32 0, .int .u32 0, .int .u32 0] 49 (0, 0)))
    have HK5 := Lib.hid ((HK4.out.trans (hk5.mono HK4.out.size)).alloc (Nat.le_trans HK4.out.size hk5.size) (.cells #[.slice a5 (hi - ah) c5, .slice none 0 0, .int .u32 0, .int .u32 0, .int .u32 0] 49 (0, 0)))
    have HY5 := Lib.hid (hy5.alloc (.cells #[.slice a5 (hi - ah) c5, .slice none 0 0, .int .u32 0, .int .u32 0, .int .u32 0] 49 (0, 0)))
    have HE5 := Lib.hid hb5
    have hs5 : w.heap.size + 2 ≤ w5.heap.size := Nat.le_trans hs4 hk5.size
    have x0 : (w5.alloc (.cells #[.slice a5 (hi - ah) c5, .slice none 0 0, .int .u32 0, .int .u32 0, .int .u32 0] 49 (0, 0))).cell? ⟨w.heap.size, 0, none⟩ = some (.int .u8 t) := HF5.out.cell 0
    have HBF := Lib.hid (pay_set HR5.out (.slice a5 (hi - ah) c5) (.slice none 0 0) (.int .u32 0) (.int .u32 0) (.int .u32 0))
    have HKF := Lib.hid (Keeps.below HK5.out (pay_keep _ (w.heap.size + 1) (.slice a5 (hi - ah) c5) (.slice none 0 0) (.int .u32 0) (.int .u32 0) (.int .u32 0)) HK5.out.size (fun k hk => by omega))
    have HYF := Lib.hid (HY5.out.keep (pay_keep _ (w.heap.size + 1) (.slice a5 (hi - ah) c5) (.slice none 0 0) (.int .u32 0) (.int .u32 0) (.int .u32 0)) (fun b hb e => by have := hb5 b hb; omega))
    obtain ⟨⟨p0, p1, p2, p3, p4⟩, z0, z1, z2, z3, z4⟩ := pay_cells HR5.out
    have ht8 : (t == 8) = false := by rcases ht with rfl | rfl <;> rfl
    clear y0 y1 y2 y3 hy5 hb5 hk5
    go_wp2_with fail
    clear p0 p1 p2 p3 p4 z0 z1 z2 z3 z4
    obtain ⟨⟨s0, s1, s2, s3, s4⟩, _⟩ := pay_cells HBF.out
    (try simp only [Exit.inBlock, Exit.then])
    refine bodyPost_ret (by simp [results, Try.results16, go_sem, s0, s1, s2, s3, s4]; try rfl) rfl ?_
    exact ⟨_, _, rfl, HYF.out, fun b hb => (by have := HE5.out b hb; omega), HKF.out⟩)

end Go.Proofs.Ytcfljnlfikkhaaa
