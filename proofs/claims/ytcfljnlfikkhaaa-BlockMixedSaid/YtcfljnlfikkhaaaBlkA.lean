/- A frame's payload read: headers, continuations. -/
import Derived.Test.YtcfljnlfikkhaaaPayH
namespace Go.Proofs.Ytcfljnlfikkhaaa
open Go.RowKit Go.Deep

set_option maxHeartbeats 3200000 in
theorem told9_any (fl st : Int) (a : Option Addr) (n cap : Nat) (xs : List UInt8) (w : World) (hx : By w a n cap xs) (hn : n ≤ 1000000) :
    Calls Try.prog 23 #[FrV 9 fl st a n cap] w fun e w' => ∃ a' c', e = .returned (PyV a' n c' none 0 0 0 0 0) ∧ By w' a' n c' xs ∧ (∀ b, a'.map (·.block) = some b → w.heap.size ≤ b) ∧ Below w.heap.size w w' := by
  have hk0 := ((Below.refl w.heap.size w).alloc (Nat.le_refl _) (.cells #[.int .u8 9, .int .u8 fl, .int .u32 st, .slice a n cap] 33 (0, 0))).alloc (by simp) (.cells #[.slice none 0 0, .slice none 0 0, .int .u32 0, .int .u32 0, .int .u32 0] 49 (0, 0))
  have hb0 := (Blk.new w #[.int .u8 9, .int .u8 fl, .int .u32 st, .slice a n cap] 33).alloc (.cells #[.slice none 0 0, .slice none 0 0, .int .u32 0, .int .u32 0, .int .u32 0] 49 (0, 0))
  have hb1 := Blk.new (w.alloc (.cells #[.int .u8 9, .int .u8 fl, .int .u32 st, .slice a n cap] 33 (0, 0))) #[.slice none 0 0, .slice none 0 0, .int .u32 0, .int .u32 0, .int .u32 0] 49
  rw [World.size_alloc] at hb1
  have HK0 := Lib.hid hk0
  have HB0 := Lib.hid hb0
  have HB1 := Lib.hid hb1
  have HX := Lib.hid hx
  clear hk0 hb0 hb1 hx
  unfold FrV
  go_enter Try.func23, Try.ntmps23
  go_wp2_with (at_builtin; refine halt ?_)
  refine Halted.go (wpList_copy8 _ rfl _ rfl a n cap xs rfl ((HX.out.alloc _).alloc _) (by omega) ?_)
  intro a6 c6 w6 ho6 hk6
  have hs0 : ((w.alloc (.cells #[.int .u8 9, .int .u8 fl, .int .u32 st, .slice a n cap] 33 (0, 0))).alloc (.cells #[.slice none 0 0, .slice none 0 0, .int .u32 0, .int .u32 0, .int .u32 0] 49 (0, 0))).heap.size = w.heap.size + 2 := by simp
  have HF6 := Lib.hid ((Below.keeps hk6).blk HB0.out (by rw [hs0]; omega))
  have HR6 := Lib.hid ((Below.keeps hk6).blk HB1.out (by rw [hs0]; omega))
  have HK6 := Lib.hid (HK0.out.trans (hk6.mono (by rw [hs0]; omega)))
  rw [hs0] at ho6
  have HO6 := Lib.hid ho6
  have hs6 : w.heap.size + 2 ≤ w6.heap.size := by have := hk6.size; rw [hs0] at this; exact this
  have hf6 := HF6.out
  have f0 : w6.cell? ⟨w.heap.size, 0, none⟩ = some (.int .u8 9) := hf6.cell 0
  have f1 : w6.cell? ⟨w.heap.size, 1, none⟩ = some (.int .u8 fl) := hf6.cell 1
  have f2 : w6.cell? ⟨w.heap.size, 2, none⟩ = some (.int .u32 st) := hf6.cell 2
  have f3 : w6.cell? ⟨w.heap.size, 3, none⟩ = some (.slice a n cap) := hf6.cell 3
  have HX6 := Lib.hid (((HX.out.alloc _).alloc _).grow hk6)
  clear hs0 ho6 hk6 hf6 HK0 HB0 HB1 HX
  obtain ⟨⟨p0, p1, p2, p3, p4⟩, z0, z1, z2, z3, z4⟩ := pay_cells HR6.out
  have HBF := Lib.hid (pay_set HR6.out (.slice a6 n c6) (.slice none 0 0) (.int .u32 0) (.int .u32 0) (.int .u32 0))
  have HYF := Lib.hid (HO6.out.by.keep (pay_keep w6 (w.heap.size + 1) (.slice a6 n c6) (.slice none 0 0) (.int .u32 0) (.int .u32 0) (.int .u32 0)) (fun b hb e => by have := (HO6.out.ge b hb).1; omega))
  have HKF := Lib.hid (Keeps.below HK6.out (pay_keep w6 (w.heap.size + 1) (.slice a6 n c6) (.slice none 0 0) (.int .u32 0) (.int .u32 0) (.int .u32 0)) HK6.out.size (fun k hk => by omega))
  go_wp2_with fail
  clear p0 p1 p2 p3 p4 z0 z1 z2 z3 z4 f0 f1 f2 f3
  obtain ⟨⟨s0, s1, s2, s3, s4⟩, _⟩ := pay_cells HBF.out
  (try simp only [Exit.inBlock, Exit.then])
  refine bodyPost_ret (by simp [results, Try.results23, go_sem, s0, s1, s2, s3, s4]; try rfl) rfl ?_
  exact ⟨_, _, rfl, HYF.out, fun b hb => (by have := (HO6.out.ge b hb).1; omega), HKF.out⟩

set_option maxHeartbeats 3200000 in
/-- A payload that is told. -/
theorem read_by (t fl st : Int) (a : Option Addr) (n cap : Nat) (xs : List UInt8) (ah pd hi : Nat) (w : World) (hx : By w a n cap xs) (hn : n ≤ 1000000) (ht : ∀ w', By w' a n cap xs → Calls Try.prog 23 #[FrV t fl st a n cap] w' fun e w'' => ∃ a' c', e = .returned (PyV a' (hi - ah) c' none 0 0 0 0 0) ∧ By w'' a' (hi - ah) c' ((xs.drop ah).take (hi - ah)) ∧ (∀ b, a'.map (·.block) = some b → w'.heap.size ≤ b) ∧ Below w'.heap.size w' w'') (ht8 : (t == 8) = false) (hz : zeroP t st = true) (hg : sizeP t fl n = true) (ha : aheadI t fl = ah) (hp : padI t fl xs = pd) (hhi : n = hi + pd) (hl : ah ≤ hi) (h0 : padP t fl = true → 0 < n) :
    Calls Try.prog 16 #[FrV t fl st a n cap] w fun e w' => ∃ a' c', e = .returned (.tuple #[PyV a' (hi - ah) c' none 0 0 0 0 0, .int .i64 0]) ∧ By w' a' (hi - ah) c' ((xs.drop ah).take (hi - ah)) ∧ (∀ b, a'.map (·.block) = some b → w.heap.size ≤ b) ∧ Below w.heap.size w w' := by
  have hk0 := ((Below.refl w.heap.size w).alloc (Nat.le_refl _) (.cells #[.int .u8 t, .int .u8 fl, .int .u32 st, .slice a n cap] 33 (0, 0))).alloc (by simp) (.cells #[.slice none 0 0, .slice none 0 0, .int .u32 0, .int .u32 0, .int .u32 0] 49 (0, 0))
  have hb0 := (Blk.new w #[.int .u8 t, .int .u8 fl, .int .u32 st, .slice a n cap] 33).alloc (.cells #[.slice none 0 0, .slice none 0 0, .int .u32 0, .int .u32 0, .int .u32 0] 49 (0, 0))
  have hb1 := Blk.new (w.alloc (.cells #[.int .u8 t, .int .u8 fl, .int .u32 st, .slice a n cap] 33 (0, 0))) #[.slice none 0 0, .slice none 0 0, .int .u32 0, .int .u32 0, .int .u32 0] 49
  rw [World.size_alloc] at hb1
  have hs0 : ((w.alloc (.cells #[.int .u8 t, .int .u8 fl, .int .u32 st, .slice a n cap] 33 (0, 0))).alloc (.cells #[.slice none 0 0, .slice none 0 0, .int .u32 0, .int .u32 0, .int .u32 0] 49 (0, 0))).heap.size = w.heap.size + 2 := by simp
  have HK0 := Lib.hid hk0
  have HB0 := Lib.hid hb0
  have HB1 := Lib.hid hb1
  have HS0 := Lib.hid hs0
  have HZ := Lib.hid hz
  have HG := Lib.hid hg
  clear hk0 hb0 hb1 hs0 hz hg
  have HX := Lib.hid ((hx.alloc (.cells #[.int .u8 t, .int .u8 fl, .int .u32 st, .slice a n cap] 33 (0, 0))).alloc (.cells #[.slice none 0 0, .slice none 0 0, .int .u32 0, .int .u32 0, .int .u32 0] 49 (0, 0)))
  have HA := Lib.hid ha
  have HP := Lib.hid hp
  have H0 := Lib.hid h0
  have HHI := Lib.hid hhi
  clear hx ha hp h0 hhi
  unfold FrV
  go_enter Try.func16, Try.ntmps16
  go_wp2_with fail
  refine (zero_is t fl st a n cap _ HZ.out).mono ?_
  rintro e w1 ⟨rfl, hk1⟩
  have HF1 := Lib.hid ((Below.keeps hk1).blk HB0.out (by rw [HS0.out]; omega))
  have HR1 := Lib.hid ((Below.keeps hk1).blk HB1.out (by rw [HS0.out]; omega))
  have HK1 := Lib.hid (HK0.out.trans (hk1.mono HK0.out.size))
  have hs1 : w.heap.size + 2 ≤ w1.heap.size := by have := hk1.size; rw [HS0.out] at this; exact this
  have HX1 := Lib.hid (HX.out.grow hk1)
  clear hk1
  have f0 : w1.cell? ⟨w.heap.size, 0, none⟩ = _ := HF1.out.cell 0
  have f1 : w1.cell? ⟨w.heap.size, 1, none⟩ = _ := HF1.out.cell 1
  have f2 : w1.cell? ⟨w.heap.size, 2, none⟩ = _ := HF1.out.cell 2
  have f3 : w1.cell? ⟨w.heap.size, 3, none⟩ = _ := HF1.out.cell 3
  go_wp2_with fail
  refine (size_is t fl st a n cap w1 (by omega) HG.out).mono ?_
  rintro e w2 ⟨rfl, hk2⟩
  have HF2 := Lib.hid ((Below.keeps hk2).blk HF1.out (by omega))
  have HR2 := Lib.hid ((Below.keeps hk2).blk HR1.out (by omega))
  have HK2 := Lib.hid (HK1.out.trans (hk2.mono HK1.out.size))
  have hs2 : w.heap.size + 2 ≤ w2.heap.size := Nat.le_trans hs1 hk2.size
  have HX2 := Lib.hid (HX1.out.grow hk2)
  clear hk2 f0 f1 f2 f3
  have hsd : w.heap.size + 2 ≤ w2.drew.heap.size := hs2
  have hw1 : IntKind.i64.wrap ((n : Int) - (ah : Int)) = (n : Int) - (ah : Int) := by have := HHI.out; rw [IntKind.wrap_i64]; omega
  have hw2 : decide ((n : Int) - (ah : Int) < (pd : Int)) = false := by have := HHI.out; simp; omega
  go_upto_region 5 with fail
  have f0 : w2.drew.cell? ⟨w.heap.size, 0, none⟩ = some (.int .u8 t) := HF2.out.cell 0
  have f1 : w2.drew.cell? ⟨w.heap.size, 1, none⟩ = some (.int .u8 fl) := HF2.out.cell 1
  have f2 : w2.drew.cell? ⟨w.heap.size, 2, none⟩ = some (.int .u32 st) := HF2.out.cell 2
  have f3 : w2.drew.cell? ⟨w.heap.size, 3, none⟩ = some (.slice a n cap) := HF2.out.cell 3
  go_region_held3 (fun w' => w'.cell? ⟨w.heap.size, 0, none⟩ = some (.int .u8 t) ∧ w'.cell? ⟨w.heap.size, 1, none⟩ = some (.int .u8 fl) ∧ w'.cell? ⟨w.heap.size, 2, none⟩ = some (.int .u32 st) ∧ w'.cell? ⟨w.heap.size, 3, none⟩ = some (.slice a n cap)) (first | exact ⟨f0, f1, f2, f3⟩ | exact ⟨g0, g1, g2, g3⟩ | exact ⟨y0, y1, y2, y3⟩ | go_keep) (first
    | (go_at_call 21
       go_must (
         refine (pad_is t fl st a n cap xs _ (By.drew' HX2.out) H0.out HP.out).mono ?_
         rintro e w3 ⟨rfl, hk3⟩
         have HF3 := Lib.hid ((Below.keeps hk3).blk (HF2.out.drew) (by omega))
         have HR3 := Lib.hid ((Below.keeps hk3).blk (HR2.out.drew) (by omega))
         have HX3 := Lib.hid (By.grow (w := w2.drew) (By.drew' HX2.out) hk3)
         have HK3 := Lib.hid (HK2.out.drew.trans (hk3.mono HK2.out.size))
         have hs3 : w.heap.size + 2 ≤ w3.heap.size := Nat.le_trans hsd hk3.size
         have g0 : w3.cell? ⟨w.heap.size, 0, none⟩ = _ := HF3.out.cell 0
         have g1 : w3.cell? ⟨w.heap.size, 1, none⟩ = _ := HF3.out.cell 1
         have g2 : w3.cell? ⟨w.heap.size, 2, none⟩ = _ := HF3.out.cell 2
         have g3 : w3.cell? ⟨w.heap.size, 3, none⟩ = _ := HF3.out.cell 3
         clear hk3))
    | (go_at_call 22
       go_must (
         refine (ahead_is t fl st a n cap _ HA.out).mono ?_
         rintro e w4 ⟨rfl, hk4⟩
         have HF4 := Lib.hid ((Below.keeps hk4).blk HF3.out (by omega))
         have HR4 := Lib.hid ((Below.keeps hk4).blk HR3.out (by omega))
         have HX4 := Lib.hid (HX3.out.grow hk4)
         have HK4 := Lib.hid (HK3.out.trans (hk4.mono HK3.out.size))
         have hs4 : w.heap.size + 2 ≤ w4.heap.size := Nat.le_trans hs3 hk4.size
         have y0 : w4.cell? ⟨w.heap.size, 0, none⟩ = _ := HF4.out.cell 0
         have y1 : w4.cell? ⟨w.heap.size, 1, none⟩ = _ := HF4.out.cell 1
         have y2 : w4.cell? ⟨w.heap.size, 2, none⟩ = _ := HF4.out.cell 2
         have y3 : w4.cell? ⟨w.heap.size, 3, none⟩ = _ := HF4.out.cell 3
         clear hk4)))
  all_goals (
    clear f0 f1 f2 f3 g0 g1 g2 g3
    go_wp2_with fail
    refine (ht w4 HX4.out).mono ?_
    rintro e w5 ⟨a5, c5, rfl, hy5, hb5, hk5⟩
    unfold PyV
    have HR5 := Lib.hid (((Below.keeps hk5).blk HR4.out (by omega)).alloc (.cells #[.slice a5 (hi - ah) c5, .slice none 0 0, .int .u32 0, .int .u32 0, .int .u32 0] 49 (0, 0)))
    have HF5 := Lib.hid (((Below.keeps hk5).blk HF4.out (by omega)).alloc (.cells #[.slice a5 (hi - ah) c5, .slice none 0 0, .int .u32 0, .int .u32 0, .int .u32 0] 49 (0, 0)))
    have HK5 := Lib.hid ((HK4.out.trans (hk5.mono HK4.out.size)).alloc (Nat.le_trans HK4.out.size hk5.size) (.cells #[.slice a5 (hi - ah) c5, .slice none 0 0, .int .u32 0, .int .u32 0, .int .u32 0] 49 (0, 0)))
    have HY5 := Lib.hid (hy5.alloc (.cells #[.slice a5 (hi - ah) c5, .slice none 0 0, .int .u32 0, .int .u32 0, .int .u32 0] 49 (0, 0)))
    have HE5 := Lib.hid hb5
    have hs5 : w.heap.size + 2 ≤ w5.heap.size := Nat.le_trans hs4 hk5.size
    have x0 : (w5.alloc (.cells #[.slice a5 (hi - ah) c5, .slice none 0 0, .int .u32 0, .int .u32 0, .int .u32 0] 49 (0, 0))).cell? ⟨w.heap.size, 0, none⟩ = some (.int .u8 t) := HF5.out.cell 0
    have HBF := Lib.hid (pay_set HR5.out (.slice a5 (hi - ah) c5) (.slice none 0 0) (.int .u32 0) (.int .u32 0) (.int .u32 0))
    have HKF := Lib.hid (Keeps.below HK5.out (pay_keep _ (w.heap.size + 1) (.slice a5 (hi - ah) c5) (.slice none 0 0) (.int .u32 0) (.int .u32 0) (.int .u32 0)) HK5.out.size (fun k hk => by omega))
    have HYF := Lib.hid (HY5.out.keep (pay_keep _ (w.heap.size + 1) (.slice a5 (hi - ah) c5) (.slice none 0 0) (.int .u32 0) (.int .u32 0) (.int .u32 0)) (fun b hb e => by have := hb5 b hb; omega))
    obtain ⟨⟨p0, p1, p2, p3, p4⟩, z0, z1, z2, z3, z4⟩ := pay_cells HR5.out
    clear y0 y1 y2 y3 hy5 hb5 hk5
    go_wp2_with fail
    clear p0 p1 p2 p3 p4 z0 z1 z2 z3 z4
    obtain ⟨⟨s0, s1, s2, s3, s4⟩, _⟩ := pay_cells HBF.out
    (try simp only [Exit.inBlock, Exit.then])
    refine bodyPost_ret (by simp [results, Try.results16, go_sem, s0, s1, s2, s3, s4]; try rfl) rfl ?_
    exact ⟨_, _, rfl, HYF.out, fun b hb => (by have := HE5.out b hb; omega), HKF.out⟩)


/-- What reading a frame's payload answers, at headers and continuations: the rule, the bytes. -/
def payQ (t fl st : Int) (xs : List UInt8) : Int :=
  if st = 0 then 2 else if t = 9 then 0 else if (xs.length : Int) < aheadI 1 fl then 1 else if (xs.length : Int) < aheadI 1 fl + padI 1 fl xs then 6 else 0
def payX (t fl : Int) (xs : List UInt8) : List UInt8 :=
  if t = 9 then xs else (xs.drop (aheadI 1 fl).toNat).take (xs.length - (padI 1 fl xs).toNat - (aheadI 1 fl).toNat)
/-- A payload read. -/
def PayP (t fl st : Int) (xs : List UInt8) (w : World) (e : Ending) (w' : World) : Prop :=
  ∃ a' m c' ys, e = .returned (.tuple #[PyV a' m c' none 0 0 0 0 0, .int .i64 (payQ t fl st xs)]) ∧ By w' a' m c' ys ∧ (payQ t fl st xs = 0 → ys = payX t fl xs) ∧ (∀ b, a'.map (·.block) = some b → w.heap.size ≤ b) ∧ Below w.heap.size w w'

theorem aheadI_ge (t fl : Int) : 0 ≤ aheadI t fl ∧ aheadI t fl ≤ 6 := by unfold aheadI; (repeat' split) <;> omega
theorem padI_ge (t fl : Int) (xs : List UInt8) : 0 ≤ padI t fl xs ∧ padI t fl xs ≤ 255 := by
  unfold padI
  split
  · have := (xs.headD 0).toNat_lt; omega
  · omega
theorem ahead_one {fl : Int} (h : padP 1 fl = true) : 1 ≤ aheadI 1 fl := by unfold aheadI; rw [h, if_pos rfl]; (repeat' split) <;> omega
theorem zeroP_is {t st : Int} (ht : t = 1 ∨ t = 9) : zeroP t st = (st != 0) := by rcases ht with rfl | rfl <;> rfl
theorem aheadI_9 (fl : Int) : aheadI 9 fl = 0 := by simp [aheadI, padP, prioP]
theorem padI_9 (fl : Int) (xs : List UInt8) : padI 9 fl xs = 0 := by simp [padI, padP]

theorem pay_any (t fl st : Int) (a : Option Addr) (n cap : Nat) (xs : List UInt8) (w : World) (hx : By w a n cap xs) (hn : n ≤ 1000000) (ht : t = 1 ∨ t = 9) :
    Calls Try.prog 16 #[FrV t fl st a n cap] w (PayP t fl st xs w) := by
  have hl := hx.1
  by_cases hs : st = 0
  · refine (read_zero t fl st a n cap w (by rw [zeroP_is ht, hs]; rfl)).mono ?_
    rintro e w' ⟨rfl, hk⟩
    have hq : payQ t fl st xs = 2 := by unfold payQ; rw [if_pos hs]
    exact ⟨none, 0, 0, [], by rw [hq]; rfl, By.nil _, by rw [hq]; intro h; omega, by simp, hk⟩
  have hz : zeroP t st = true := by rw [zeroP_is ht]; simpa using hs
  by_cases h9 : t = 9
  · subst h9
    have hq : payQ 9 fl st xs = 0 := by unfold payQ; rw [if_neg hs, if_pos rfl]
    have hp9 : padP 9 fl = false := by simp [padP]
    refine (read_by 9 fl st a n cap xs 0 0 n w hx hn (fun w' hb => (told9_any fl st a n cap xs w' hb hn).mono ?_) rfl hz rfl (aheadI_9 fl) (padI_9 fl xs) (by omega) (by omega) (by rw [hp9]; intro h; cases h)).mono ?_
    · rintro e w2 ⟨a', c', rfl, hy, hg, hk⟩
      exact ⟨a', c', rfl, by rwa [Nat.sub_zero, List.drop_zero, List.take_of_length_le (by omega)], hg, hk⟩
    · rintro e w2 ⟨a', c', rfl, hy, hg, hk⟩
      rw [Nat.sub_zero, List.drop_zero, List.take_of_length_le (by omega)] at hy
      exact ⟨a', n, c', xs, by rw [hq]; rfl, hy, fun _ => by unfold payX; rw [if_pos rfl], hg, hk⟩
  obtain rfl : t = 1 := by omega
  have ⟨g0, g1⟩ := aheadI_ge 1 fl
  have ⟨p0, p1⟩ := padI_ge 1 fl xs
  have hsz : sizeP 1 fl n = decide (aheadI 1 fl ≤ (n : Int)) := rfl
  by_cases h1 : (n : Int) < aheadI 1 fl
  · refine (read_size 1 fl st a n cap w hn hz (by rw [hsz]; simp; omega)).mono ?_
    rintro e w' ⟨rfl, hk⟩
    have hq : payQ 1 fl st xs = 1 := by unfold payQ; rw [if_neg hs, if_neg (by omega), if_pos (by omega)]
    exact ⟨none, 0, 0, [], by rw [hq]; rfl, By.nil _, by rw [hq]; intro h; omega, by simp, hk⟩
  have hg : sizeP 1 fl n = true := by rw [hsz]; simp; omega
  have h0 : padP 1 fl = true → 0 < n := fun h => by have := ahead_one h; omega
  obtain ⟨ah, hah⟩ : ∃ ah : Nat, aheadI 1 fl = ah := ⟨(aheadI 1 fl).toNat, by omega⟩
  obtain ⟨pd, hpd⟩ : ∃ pd : Nat, padI 1 fl xs = pd := ⟨(padI 1 fl xs).toNat, by omega⟩
  by_cases h2 : n < ah + pd
  · refine (read_order 1 fl st a n cap xs ah pd w hx hn hz hg hah hpd h2 (by omega) (by omega) h0).mono ?_
    rintro e w' ⟨rfl, hk⟩
    have hq : payQ 1 fl st xs = 6 := by unfold payQ; rw [if_neg hs, if_neg (by omega), if_neg (by omega), if_pos (by omega)]
    exact ⟨none, 0, 0, [], by rw [hq]; rfl, By.nil _, by rw [hq]; intro h; omega, by simp, hk⟩
  · refine (read_told 1 fl st a n cap xs ah pd (n - pd) w hx hn (Or.inr rfl) hz hg hah hpd (by omega) (by omega) h0).mono ?_
    rintro e w' ⟨a', c', rfl, hy, hgb, hk⟩
    have hq : payQ 1 fl st xs = 0 := by unfold payQ; rw [if_neg hs, if_neg (by omega), if_neg (by omega), if_neg (by omega)]
    refine ⟨a', _, c', _, by rw [hq], hy, fun _ => ?_, hgb, hk⟩
    unfold payX
    rw [if_neg (by omega), hah, hpd, Int.toNat_natCast, Int.toNat_natCast, hl]

end Go.Proofs.Ytcfljnlfikkhaaa
