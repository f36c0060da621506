/- The walk of PaySizes. -/
import Derived.Test.YtcckdahpagkbaaaPayQ
import Derived.Test.YtcckdahpagkbaaaPayG
import Derived.Test.YtcckdahpagkbaaaMake8
namespace Go.Proofs.Ytcckdahpagkbaaa
open Go.RowKit Go.Deep
set_option linter.unusedVariables false

def ruleS (tt FL : Int) (n : Nat) : Int := if sizeP tt FL n then (if tt = 8 then 3 else 0) else 1
theorem readR (tt FL st : Int) (a : Option Addr) (n cap : Nat) (w : World) (h0 : 0 ≤ tt) (h1 : tt ≤ 11) (hx : By w a n cap (List.replicate n 0)) (hn : n ≤ 1000) (hz : zeroP tt st = true) (hf8 : bits .and .u8 FL 8 = 0) (hf32 : bits .and .u8 FL 32 = 0) :
    Calls Try.prog 9 #[FrV tt FL st a n cap] w (Rul w (ruleS tt FL n)) := readS tt FL st a n cap w h0 h1 hx hn hz hf8 hf32
theorem rule_good {t FL : Int} {k : Nat} (h : sizeP t FL k = true) (h8 : t ≠ 8) : ruleS t FL k = 0 := by unfold ruleS; rw [if_pos h, if_neg h8]
theorem rule_win {FL : Int} {k : Nat} (h : sizeP 8 FL k = true) : ruleS 8 FL k = 3 := by unfold ruleS; rw [if_pos h, if_pos rfl]
theorem rule_bad {t FL : Int} {k : Nat} (h : sizeP t FL k = false) : ruleS t FL k = 1 := by unfold ruleS; rw [h]; rfl
theorem ahead_none {t FL : Int} (h8 : bits .and .u8 FL 8 = 0) (h32 : bits .and .u8 FL 32 = 0) (ht : t ≠ 5) : aheadI t FL = 0 := by
  unfold aheadI padP prioP
  rw [h8, h32, if_neg ht]
  simp
theorem ahead_push {FL : Int} (h8 : bits .and .u8 FL 8 = 0) (h32 : bits .and .u8 FL 32 = 0) : aheadI 5 FL = 4 := by
  unfold aheadI padP prioP
  rw [h8, h32]
  simp

set_option maxRecDepth 8000 in
set_option maxHeartbeats 1600000 in
theorem sizes_0a (w : World) (a0 a1 g FL : Int) (k : Nat) (hT : a0 % 12 = 0) (hk : a1 % 40 = ((k : Nat) : Int)) (hk40 : k < 40) (hFL : bits .andNot .u8 g 40 = FL) (hf8 : Hid (bits .and .u8 FL 8 = 0)) (hf32 : Hid (bits .and .u8 FL 32 = 0)) (hf1 : Hid (bits .and .u8 FL 1 = bits .and .u8 g 1)) (h00 : 0 ≤ a0) (h10 : 0 ≤ a1) (h01 : a0 ≤ 255) (h11 : a1 ≤ 255)  :
    Calls Try.prog 4 #[.int .u8 a0, .int .u8 a1, .int .u8 g] w fun e w' => e = .returned (.bool true) ∧ Below w.heap.size w w' := by
  have HR : Hid (ruleS 0 FL k = 0) := Lib.hid (rule_good (by show decide (aheadI 0 FL ≤ (k : Int)) = true; rw [ahead_none hf8.out hf32.out (by decide)]; exact decide_eq_true (Int.natCast_nonneg k)) (by decide))
  go_enter Try.func4, Try.ntmps4
  go_wp2_with fail
  refine (known_any w).mono ?_
  rintro e w1 ⟨rfl, hk1⟩
  have HK1 := Lib.hid hk1
  clear hk1
  go_wp2_with (refine wpList_make8 _ rfl _ _ rfl k rfl rfl (by omega) ?_; intro w2 ho2 hk2; refine halt ?_)
  have HO2 := Lib.hid ho2.by
  have HK2 := Lib.hid (HK1.out.trans (hk2.mono HK1.out.size))
  have hs2 : w1.heap.size ≤ w2.heap.size := hk2.size
  clear ho2 hk2
  refine Halted.go ?_
  have HF3 := Lib.hid (Blk.new w2 #[.int .u8 0, .int .u8 FL, .int .u32 1, .slice (some ⟨w1.heap.size, 0, none⟩) k k] 30)
  have HX3 := Lib.hid (HO2.out.alloc (.cells #[.int .u8 0, .int .u8 FL, .int .u32 1, .slice (some ⟨w1.heap.size, 0, none⟩) k k] 30 (0, 0)))
  have HK3 := Lib.hid (HK2.out.alloc HK2.out.size (.cells #[.int .u8 0, .int .u8 FL, .int .u32 1, .slice (some ⟨w1.heap.size, 0, none⟩) k k] 30 (0, 0)))
  go_wp2_with fail
  refine (readR 0 FL 1 _ k k _ (by decide) (by decide) HX3.out (by omega) (by decide) hf8.out hf32.out).mono ?_
  rw [HR.out]
  rintro e w4 ⟨a5, n5, c5, b5, m5, d5, cc, ss, ii, rfl, hk4⟩
  unfold PyV
  have HF4 := Lib.hid (((Below.keeps hk4).blk HF3.out (by simp)).alloc (.cells #[.slice a5 n5 c5, .slice b5 m5 d5, .int .u32 cc, .int .u32 ss, .int .u32 ii] 33 (0, 0)))
  have HK4 := Lib.hid ((HK3.out.trans (hk4.mono HK3.out.size)).alloc (Nat.le_trans HK3.out.size hk4.size) (.cells #[.slice a5 n5 c5, .slice b5 m5 d5, .int .u32 cc, .int .u32 ss, .int .u32 ii] 33 (0, 0)))
  have f0 : (w4.alloc (.cells #[.slice a5 n5 c5, .slice b5 m5 d5, .int .u32 cc, .int .u32 ss, .int .u32 ii] 33 (0, 0))).cell? ⟨w2.heap.size, 0, none⟩ = some (.int .u8 0) := HF4.out.cell 0
  clear hk4
  go_wp2_with fail
  go_returns
  exact ⟨rfl, HK4.out⟩

set_option maxRecDepth 8000 in
set_option maxHeartbeats 1600000 in
theorem sizes_1a (w : World) (a0 a1 g FL : Int) (k : Nat) (hT : a0 % 12 = 1) (hk : a1 % 40 = ((k : Nat) : Int)) (hk40 : k < 40) (hFL : bits .andNot .u8 g 40 = FL) (hf8 : Hid (bits .and .u8 FL 8 = 0)) (hf32 : Hid (bits .and .u8 FL 32 = 0)) (hf1 : Hid (bits .and .u8 FL 1 = bits .and .u8 g 1)) (h00 : 0 ≤ a0) (h10 : 0 ≤ a1) (h01 : a0 ≤ 255) (h11 : a1 ≤ 255)  :
    Calls Try.prog 4 #[.int .u8 a0, .int .u8 a1, .int .u8 g] w fun e w' => e = .returned (.bool true) ∧ Below w.heap.size w w' := by
  have HR : Hid (ruleS 1 FL k = 0) := Lib.hid (rule_good (by show decide (aheadI 1 FL ≤ (k : Int)) = true; rw [ahead_none hf8.out hf32.out (by decide)]; exact decide_eq_true (Int.natCast_nonneg k)) (by decide))
  go_enter Try.func4, Try.ntmps4
  go_wp2_with fail
  refine (known_any w).mono ?_
  rintro e w1 ⟨rfl, hk1⟩
  have HK1 := Lib.hid hk1
  clear hk1
  go_wp2_with (refine wpList_make8 _ rfl _ _ rfl k rfl rfl (by omega) ?_; intro w2 ho2 hk2; refine halt ?_)
  have HO2 := Lib.hid ho2.by
  have HK2 := Lib.hid (HK1.out.trans (hk2.mono HK1.out.size))
  have hs2 : w1.heap.size ≤ w2.heap.size := hk2.size
  clear ho2 hk2
  refine Halted.go ?_
  have HF3 := Lib.hid (Blk.new w2 #[.int .u8 1, .int .u8 FL, .int .u32 1, .slice (some ⟨w1.heap.size, 0, none⟩) k k] 30)
  have HX3 := Lib.hid (HO2.out.alloc (.cells #[.int .u8 1, .int .u8 FL, .int .u32 1, .slice (some ⟨w1.heap.size, 0, none⟩) k k] 30 (0, 0)))
  have HK3 := Lib.hid (HK2.out.alloc HK2.out.size (.cells #[.int .u8 1, .int .u8 FL, .int .u32 1, .slice (some ⟨w1.heap.size, 0, none⟩) k k] 30 (0, 0)))
  go_wp2_with fail
  refine (readR 1 FL 1 _ k k _ (by decide) (by decide) HX3.out (by omega) (by decide) hf8.out hf32.out).mono ?_
  rw [HR.out]
  rintro e w4 ⟨a5, n5, c5, b5, m5, d5, cc, ss, ii, rfl, hk4⟩
  unfold PyV
  have HF4 := Lib.hid (((Below.keeps hk4).blk HF3.out (by simp)).alloc (.cells #[.slice a5 n5 c5, .slice b5 m5 d5, .int .u32 cc, .int .u32 ss, .int .u32 ii] 33 (0, 0)))
  have HK4 := Lib.hid ((HK3.out.trans (hk4.mono HK3.out.size)).alloc (Nat.le_trans HK3.out.size hk4.size) (.cells #[.slice a5 n5 c5, .slice b5 m5 d5, .int .u32 cc, .int .u32 ss, .int .u32 ii] 33 (0, 0)))
  have f0 : (w4.alloc (.cells #[.slice a5 n5 c5, .slice b5 m5 d5, .int .u32 cc, .int .u32 ss, .int .u32 ii] 33 (0, 0))).cell? ⟨w2.heap.size, 0, none⟩ = some (.int .u8 1) := HF4.out.cell 0
  clear hk4
  go_wp2_with fail
  go_returns
  exact ⟨rfl, HK4.out⟩

set_option maxRecDepth 8000 in
set_option maxHeartbeats 1600000 in
theorem sizes_2a (w : World) (a0 a1 g FL : Int) (hT : a0 % 12 = 2) (hk : a1 % 40 = ((5 : Nat) : Int)) (hFL : bits .andNot .u8 g 40 = FL) (hf8 : Hid (bits .and .u8 FL 8 = 0)) (hf32 : Hid (bits .and .u8 FL 32 = 0)) (hf1 : Hid (bits .and .u8 FL 1 = bits .and .u8 g 1)) (h00 : 0 ≤ a0) (h10 : 0 ≤ a1) (h01 : a0 ≤ 255) (h11 : a1 ≤ 255)  :
    Calls Try.prog 4 #[.int .u8 a0, .int .u8 a1, .int .u8 g] w fun e w' => e = .returned (.bool true) ∧ Below w.heap.size w w' := by
  have HR : Hid (ruleS 2 FL 5 = 0) := Lib.hid (rule_good rfl (by decide))
  go_enter Try.func4, Try.ntmps4
  go_wp2_with fail
  refine (known_any w).mono ?_
  rintro e w1 ⟨rfl, hk1⟩
  have HK1 := Lib.hid hk1
  clear hk1
  go_wp2_with (refine wpList_make8 _ rfl _ _ rfl 5 rfl rfl (by omega) ?_; intro w2 ho2 hk2; refine halt ?_)
  have HO2 := Lib.hid ho2.by
  have HK2 := Lib.hid (HK1.out.trans (hk2.mono HK1.out.size))
  have hs2 : w1.heap.size ≤ w2.heap.size := hk2.size
  clear ho2 hk2
  refine Halted.go ?_
  have HF3 := Lib.hid (Blk.new w2 #[.int .u8 2, .int .u8 FL, .int .u32 1, .slice (some ⟨w1.heap.size, 0, none⟩) 5 5] 30)
  have HX3 := Lib.hid (HO2.out.alloc (.cells #[.int .u8 2, .int .u8 FL, .int .u32 1, .slice (some ⟨w1.heap.size, 0, none⟩) 5 5] 30 (0, 0)))
  have HK3 := Lib.hid (HK2.out.alloc HK2.out.size (.cells #[.int .u8 2, .int .u8 FL, .int .u32 1, .slice (some ⟨w1.heap.size, 0, none⟩) 5 5] 30 (0, 0)))
  go_wp2_with fail
  refine (readR 2 FL 1 _ 5 5 _ (by decide) (by decide) HX3.out (by omega) (by decide) hf8.out hf32.out).mono ?_
  rw [HR.out]
  rintro e w4 ⟨a5, n5, c5, b5, m5, d5, cc, ss, ii, rfl, hk4⟩
  unfold PyV
  have HF4 := Lib.hid (((Below.keeps hk4).blk HF3.out (by simp)).alloc (.cells #[.slice a5 n5 c5, .slice b5 m5 d5, .int .u32 cc, .int .u32 ss, .int .u32 ii] 33 (0, 0)))
  have HK4 := Lib.hid ((HK3.out.trans (hk4.mono HK3.out.size)).alloc (Nat.le_trans HK3.out.size hk4.size) (.cells #[.slice a5 n5 c5, .slice b5 m5 d5, .int .u32 cc, .int .u32 ss, .int .u32 ii] 33 (0, 0)))
  have f0 : (w4.alloc (.cells #[.slice a5 n5 c5, .slice b5 m5 d5, .int .u32 cc, .int .u32 ss, .int .u32 ii] 33 (0, 0))).cell? ⟨w2.heap.size, 0, none⟩ = some (.int .u8 2) := HF4.out.cell 0
  clear hk4
  go_wp2_with fail
  go_returns
  exact ⟨rfl, HK4.out⟩

set_option maxRecDepth 8000 in
set_option maxHeartbeats 1600000 in
theorem sizes_2b (w : World) (a0 a1 g FL : Int) (k : Nat) (hT : a0 % 12 = 2) (hk : a1 % 40 = ((k : Nat) : Int)) (hk40 : k < 40) (hFL : bits .andNot .u8 g 40 = FL) (hf8 : Hid (bits .and .u8 FL 8 = 0)) (hf32 : Hid (bits .and .u8 FL 32 = 0)) (hf1 : Hid (bits .and .u8 FL 1 = bits .and .u8 g 1)) (h00 : 0 ≤ a0) (h10 : 0 ≤ a1) (h01 : a0 ≤ 255) (h11 : a1 ≤ 255) (hc : k ≠ 5) :
    Calls Try.prog 4 #[.int .u8 a0, .int .u8 a1, .int .u8 g] w fun e w' => e = .returned (.bool true) ∧ Below w.heap.size w w' := by
  have q : ((k : Int) == 5) = false := by simp; omega
  replace hc := Lib.hid hc
  have HR : Hid (ruleS 2 FL k = 1) := Lib.hid (rule_bad q)
  go_enter Try.func4, Try.ntmps4
  go_wp2_with fail
  refine (known_any w).mono ?_
  rintro e w1 ⟨rfl, hk1⟩
  have HK1 := Lib.hid hk1
  clear hk1
  go_wp2_with (refine wpList_make8 _ rfl _ _ rfl k rfl rfl (by omega) ?_; intro w2 ho2 hk2; refine halt ?_)
  have HO2 := Lib.hid ho2.by
  have HK2 := Lib.hid (HK1.out.trans (hk2.mono HK1.out.size))
  have hs2 : w1.heap.size ≤ w2.heap.size := hk2.size
  clear ho2 hk2
  refine Halted.go ?_
  have HF3 := Lib.hid (Blk.new w2 #[.int .u8 2, .int .u8 FL, .int .u32 1, .slice (some ⟨w1.heap.size, 0, none⟩) k k] 30)
  have HX3 := Lib.hid (HO2.out.alloc (.cells #[.int .u8 2, .int .u8 FL, .int .u32 1, .slice (some ⟨w1.heap.size, 0, none⟩) k k] 30 (0, 0)))
  have HK3 := Lib.hid (HK2.out.alloc HK2.out.size (.cells #[.int .u8 2, .int .u8 FL, .int .u32 1, .slice (some ⟨w1.heap.size, 0, none⟩) k k] 30 (0, 0)))
  go_wp2_with fail
  refine (readR 2 FL 1 _ k k _ (by decide) (by decide) HX3.out (by omega) (by decide) hf8.out hf32.out).mono ?_
  rw [HR.out]
  rintro e w4 ⟨a5, n5, c5, b5, m5, d5, cc, ss, ii, rfl, hk4⟩
  unfold PyV
  have HF4 := Lib.hid (((Below.keeps hk4).blk HF3.out (by simp)).alloc (.cells #[.slice a5 n5 c5, .slice b5 m5 d5, .int .u32 cc, .int .u32 ss, .int .u32 ii] 33 (0, 0)))
  have HK4 := Lib.hid ((HK3.out.trans (hk4.mono HK3.out.size)).alloc (Nat.le_trans HK3.out.size hk4.size) (.cells #[.slice a5 n5 c5, .slice b5 m5 d5, .int .u32 cc, .int .u32 ss, .int .u32 ii] 33 (0, 0)))
  have f0 : (w4.alloc (.cells #[.slice a5 n5 c5, .slice b5 m5 d5, .int .u32 cc, .int .u32 ss, .int .u32 ii] 33 (0, 0))).cell? ⟨w2.heap.size, 0, none⟩ = some (.int .u8 2) := HF4.out.cell 0
  clear hk4
  go_wp2_with fail
  go_returns
  exact ⟨rfl, HK4.out⟩

set_option maxRecDepth 8000 in
set_option maxHeartbeats 1600000 in
theorem sizes_3a (w : World) (a0 a1 g FL : Int) (hT : a0 % 12 = 3) (hk : a1 % 40 = ((4 : Nat) : Int)) (hFL : bits .andNot .u8 g 40 = FL) (hf8 : Hid (bits .and .u8 FL 8 = 0)) (hf32 : Hid (bits .and .u8 FL 32 = 0)) (hf1 : Hid (bits .and .u8 FL 1 = bits .and .u8 g 1)) (h00 : 0 ≤ a0) (h10 : 0 ≤ a1) (h01 : a0 ≤ 255) (h11 : a1 ≤ 255)  :
    Calls Try.prog 4 #[.int .u8 a0, .int .u8 a1, .int .u8 g] w fun e w' => e = .returned (.bool true) ∧ Below w.heap.size w w' := by
  have HR : Hid (ruleS 3 FL 4 = 0) := Lib.hid (rule_good rfl (by decide))
  go_enter Try.func4, Try.ntmps4
  go_wp2_with fail
  refine (known_any w).mono ?_
  rintro e w1 ⟨rfl, hk1⟩
  have HK1 := Lib.hid hk1
  clear hk1
  go_wp2_with (refine wpList_make8 _ rfl _ _ rfl 4 rfl rfl (by omega) ?_; intro w2 ho2 hk2; refine halt ?_)
  have HO2 := Lib.hid ho2.by
  have HK2 := Lib.hid (HK1.out.trans (hk2.mono HK1.out.size))
  have hs2 : w1.heap.size ≤ w2.heap.size := hk2.size
  clear ho2 hk2
  refine Halted.go ?_
  have HF3 := Lib.hid (Blk.new w2 #[.int .u8 3, .int .u8 FL, .int .u32 1, .slice (some ⟨w1.heap.size, 0, none⟩) 4 4] 30)
  have HX3 := Lib.hid (HO2.out.alloc (.cells #[.int .u8 3, .int .u8 FL, .int .u32 1, .slice (some ⟨w1.heap.size, 0, none⟩) 4 4] 30 (0, 0)))
  have HK3 := Lib.hid (HK2.out.alloc HK2.out.size (.cells #[.int .u8 3, .int .u8 FL, .int .u32 1, .slice (some ⟨w1.heap.size, 0, none⟩) 4 4] 30 (0, 0)))
  go_wp2_with fail
  refine (readR 3 FL 1 _ 4 4 _ (by decide) (by decide) HX3.out (by omega) (by decide) hf8.out hf32.out).mono ?_
  rw [HR.out]
  rintro e w4 ⟨a5, n5, c5, b5, m5, d5, cc, ss, ii, rfl, hk4⟩
  unfold PyV
  have HF4 := Lib.hid (((Below.keeps hk4).blk HF3.out (by simp)).alloc (.cells #[.slice a5 n5 c5, .slice b5 m5 d5, .int .u32 cc, .int .u32 ss, .int .u32 ii] 33 (0, 0)))
  have HK4 := Lib.hid ((HK3.out.trans (hk4.mono HK3.out.size)).alloc (Nat.le_trans HK3.out.size hk4.size) (.cells #[.slice a5 n5 c5, .slice b5 m5 d5, .int .u32 cc, .int .u32 ss, .int .u32 ii] 33 (0, 0)))
  have f0 : (w4.alloc (.cells #[.slice a5 n5 c5, .slice b5 m5 d5, .int .u32 cc, .int .u32 ss, .int .u32 ii] 33 (0, 0))).cell? ⟨w2.heap.size, 0, none⟩ = some (.int .u8 3) := HF4.out.cell 0
  clear hk4
  go_wp2_with fail
  go_returns
  exact ⟨rfl, HK4.out⟩

set_option maxRecDepth 8000 in
set_option maxHeartbeats 1600000 in
theorem sizes_3b (w : World) (a0 a1 g FL : Int) (k : Nat) (hT : a0 % 12 = 3) (hk : a1 % 40 = ((k : Nat) : Int)) (hk40 : k < 40) (hFL : bits .andNot .u8 g 40 = FL) (hf8 : Hid (bits .and .u8 FL 8 = 0)) (hf32 : Hid (bits .and .u8 FL 32 = 0)) (hf1 : Hid (bits .and .u8 FL 1 = bits .and .u8 g 1)) (h00 : 0 ≤ a0) (h10 : 0 ≤ a1) (h01 : a0 ≤ 255) (h11 : a1 ≤ 255) (hc : k ≠ 4) :
    Calls Try.prog 4 #[.int .u8 a0, .int .u8 a1, .int .u8 g] w fun e w' => e = .returned (.bool true) ∧ Below w.heap.size w w' := by
  have q : ((k : Int) == 4) = false := by simp; omega
  replace hc := Lib.hid hc
  have HR : Hid (ruleS 3 FL k = 1) := Lib.hid (rule_bad q)
  go_enter Try.func4, Try.ntmps4
  go_wp2_with fail
  refine (known_any w).mono ?_
  rintro e w1 ⟨rfl, hk1⟩
  have HK1 := Lib.hid hk1
  clear hk1
  go_wp2_with (refine wpList_make8 _ rfl _ _ rfl k rfl rfl (by omega) ?_; intro w2 ho2 hk2; refine halt ?_)
  have HO2 := Lib.hid ho2.by
  have HK2 := Lib.hid (HK1.out.trans (hk2.mono HK1.out.size))
  have hs2 : w1.heap.size ≤ w2.heap.size := hk2.size
  clear ho2 hk2
  refine Halted.go ?_
  have HF3 := Lib.hid (Blk.new w2 #[.int .u8 3, .int .u8 FL, .int .u32 1, .slice (some ⟨w1.heap.size, 0, none⟩) k k] 30)
  have HX3 := Lib.hid (HO2.out.alloc (.cells #[.int .u8 3, .int .u8 FL, .int .u32 1, .slice (some ⟨w1.heap.size, 0, none⟩) k k] 30 (0, 0)))
  have HK3 := Lib.hid (HK2.out.alloc HK2.out.size (.cells #[.int .u8 3, .int .u8 FL, .int .u32 1, .slice (some ⟨w1.heap.size, 0, none⟩) k k] 30 (0, 0)))
  go_wp2_with fail
  refine (readR 3 FL 1 _ k k _ (by decide) (by decide) HX3.out (by omega) (by decide) hf8.out hf32.out).mono ?_
  rw [HR.out]
  rintro e w4 ⟨a5, n5, c5, b5, m5, d5, cc, ss, ii, rfl, hk4⟩
  unfold PyV
  have HF4 := Lib.hid (((Below.keeps hk4).blk HF3.out (by simp)).alloc (.cells #[.slice a5 n5 c5, .slice b5 m5 d5, .int .u32 cc, .int .u32 ss, .int .u32 ii] 33 (0, 0)))
  have HK4 := Lib.hid ((HK3.out.trans (hk4.mono HK3.out.size)).alloc (Nat.le_trans HK3.out.size hk4.size) (.cells #[.slice a5 n5 c5, .slice b5 m5 d5, .int .u32 cc, .int .u32 ss, .int .u32 ii] 33 (0, 0)))
  have f0 : (w4.alloc (.cells #[.slice a5 n5 c5, .slice b5 m5 d5, .int .u32 cc, .int .u32 ss, .int .u32 ii] 33 (0, 0))).cell? ⟨w2.heap.size, 0, none⟩ = some (.int .u8 3) := HF4.out.cell 0
  clear hk4
  go_wp2_with fail
  go_returns
  exact ⟨rfl, HK4.out⟩

set_option maxRecDepth 8000 in
set_option maxHeartbeats 1600000 in
theorem sizes_4a (w : World) (a0 a1 g FL : Int) (k : Nat) (hT : a0 % 12 = 4) (hk : a1 % 40 = ((k : Nat) : Int)) (hk40 : k < 40) (hFL : bits .andNot .u8 g 40 = FL) (hf8 : Hid (bits .and .u8 FL 8 = 0)) (hf32 : Hid (bits .and .u8 FL 32 = 0)) (hf1 : Hid (bits .and .u8 FL 1 = bits .and .u8 g 1)) (h00 : 0 ≤ a0) (h10 : 0 ≤ a1) (h01 : a0 ≤ 255) (h11 : a1 ≤ 255) (hc : k % 6 ≠ 0) :
    Calls Try.prog 4 #[.int .u8 a0, .int .u8 a1, .int .u8 g] w fun e w' => e = .returned (.bool true) ∧ Below w.heap.size w w' := by
  have q : ((k : Int) % 6 == 0) = false := by simp; omega
  replace hc := Lib.hid hc
  have HR : Hid (ruleS 4 FL k = 1) := Lib.hid (rule_bad (by show (((k : Nat) : Int) % 6 == 0 && (bits .and .u8 FL 1 == 0 || ((k : Nat) : Int) == 0)) = false; rw [q]; rfl))
  go_enter Try.func4, Try.ntmps4
  go_wp2_with fail
  refine (known_any w).mono ?_
  rintro e w1 ⟨rfl, hk1⟩
  have HK1 := Lib.hid hk1
  clear hk1
  go_wp2_with (refine wpList_make8 _ rfl _ _ rfl k rfl rfl (by omega) ?_; intro w2 ho2 hk2; refine halt ?_)
  have HO2 := Lib.hid ho2.by
  have HK2 := Lib.hid (HK1.out.trans (hk2.mono HK1.out.size))
  have hs2 : w1.heap.size ≤ w2.heap.size := hk2.size
  clear ho2 hk2
  refine Halted.go ?_
  have HF3 := Lib.hid (Blk.new w2 #[.int .u8 4, .int .u8 FL, .int .u32 0, .slice (some ⟨w1.heap.size, 0, none⟩) k k] 30)
  have HX3 := Lib.hid (HO2.out.alloc (.cells #[.int .u8 4, .int .u8 FL, .int .u32 0, .slice (some ⟨w1.heap.size, 0, none⟩) k k] 30 (0, 0)))
  have HK3 := Lib.hid (HK2.out.alloc HK2.out.size (.cells #[.int .u8 4, .int .u8 FL, .int .u32 0, .slice (some ⟨w1.heap.size, 0, none⟩) k k] 30 (0, 0)))
  go_wp2_with fail
  refine (readR 4 FL 0 _ k k _ (by decide) (by decide) HX3.out (by omega) (by decide) hf8.out hf32.out).mono ?_
  rw [HR.out]
  rintro e w4 ⟨a5, n5, c5, b5, m5, d5, cc, ss, ii, rfl, hk4⟩
  unfold PyV
  have HF4 := Lib.hid (((Below.keeps hk4).blk HF3.out (by simp)).alloc (.cells #[.slice a5 n5 c5, .slice b5 m5 d5, .int .u32 cc, .int .u32 ss, .int .u32 ii] 33 (0, 0)))
  have HK4 := Lib.hid ((HK3.out.trans (hk4.mono HK3.out.size)).alloc (Nat.le_trans HK3.out.size hk4.size) (.cells #[.slice a5 n5 c5, .slice b5 m5 d5, .int .u32 cc, .int .u32 ss, .int .u32 ii] 33 (0, 0)))
  have f0 : (w4.alloc (.cells #[.slice a5 n5 c5, .slice b5 m5 d5, .int .u32 cc, .int .u32 ss, .int .u32 ii] 33 (0, 0))).cell? ⟨w2.heap.size, 0, none⟩ = some (.int .u8 4) := HF4.out.cell 0
  clear hk4
  go_wp2_with fail
  go_returns
  exact ⟨rfl, HK4.out⟩

set_option maxRecDepth 8000 in
set_option maxHeartbeats 1600000 in
theorem sizes_4b (w : World) (a0 a1 g FL : Int) (k : Nat) (hT : a0 % 12 = 4) (hk : a1 % 40 = ((k : Nat) : Int)) (hk40 : k < 40) (hFL : bits .andNot .u8 g 40 = FL) (hf8 : Hid (bits .and .u8 FL 8 = 0)) (hf32 : Hid (bits .and .u8 FL 32 = 0)) (hf1 : Hid (bits .and .u8 FL 1 = bits .and .u8 g 1)) (h00 : 0 ≤ a0) (h10 : 0 ≤ a1) (h01 : a0 ≤ 255) (h11 : a1 ≤ 255) (hc : k % 6 = 0) (hd : bits .and .u8 g 1 = 0) :
    Calls Try.prog 4 #[.int .u8 a0, .int .u8 a1, .int .u8 g] w fun e w' => e = .returned (.bool true) ∧ Below w.heap.size w w' := by
  have q : ((k : Int) % 6 == 0) = true := by simp; omega
  have q1 : (bits .and .u8 g 1 == 0) = true := by simpa using hd
  replace hc := Lib.hid hc
  replace hd := Lib.hid hd
  have HR : Hid (ruleS 4 FL k = 0) := Lib.hid (rule_good (by show (((k : Nat) : Int) % 6 == 0 && (bits .and .u8 FL 1 == 0 || ((k : Nat) : Int) == 0)) = true; rw [q, hf1.out, q1]; rfl) (by decide))
  go_enter Try.func4, Try.ntmps4
  go_wp2_with fail
  refine (known_any w).mono ?_
  rintro e w1 ⟨rfl, hk1⟩
  have HK1 := Lib.hid hk1
  clear hk1
  go_wp2_with (refine wpList_make8 _ rfl _ _ rfl k rfl rfl (by omega) ?_; intro w2 ho2 hk2; refine halt ?_)
  have HO2 := Lib.hid ho2.by
  have HK2 := Lib.hid (HK1.out.trans (hk2.mono HK1.out.size))
  have hs2 : w1.heap.size ≤ w2.heap.size := hk2.size
  clear ho2 hk2
  refine Halted.go ?_
  have HF3 := Lib.hid (Blk.new w2 #[.int .u8 4, .int .u8 FL, .int .u32 0, .slice (some ⟨w1.heap.size, 0, none⟩) k k] 30)
  have HX3 := Lib.hid (HO2.out.alloc (.cells #[.int .u8 4, .int .u8 FL, .int .u32 0, .slice (some ⟨w1.heap.size, 0, none⟩) k k] 30 (0, 0)))
  have HK3 := Lib.hid (HK2.out.alloc HK2.out.size (.cells #[.int .u8 4, .int .u8 FL, .int .u32 0, .slice (some ⟨w1.heap.size, 0, none⟩) k k] 30 (0, 0)))
  go_wp2_with fail
  refine (readR 4 FL 0 _ k k _ (by decide) (by decide) HX3.out (by omega) (by decide) hf8.out hf32.out).mono ?_
  rw [HR.out]
  rintro e w4 ⟨a5, n5, c5, b5, m5, d5, cc, ss, ii, rfl, hk4⟩
  unfold PyV
  have HF4 := Lib.hid (((Below.keeps hk4).blk HF3.out (by simp)).alloc (.cells #[.slice a5 n5 c5, .slice b5 m5 d5, .int .u32 cc, .int .u32 ss, .int .u32 ii] 33 (0, 0)))
  have HK4 := Lib.hid ((HK3.out.trans (hk4.mono HK3.out.size)).alloc (Nat.le_trans HK3.out.size hk4.size) (.cells #[.slice a5 n5 c5, .slice b5 m5 d5, .int .u32 cc, .int .u32 ss, .int .u32 ii] 33 (0, 0)))
  have f0 : (w4.alloc (.cells #[.slice a5 n5 c5, .slice b5 m5 d5, .int .u32 cc, .int .u32 ss, .int .u32 ii] 33 (0, 0))).cell? ⟨w2.heap.size, 0, none⟩ = some (.int .u8 4) := HF4.out.cell 0
  clear hk4
  go_wp2_with fail
  go_returns
  exact ⟨rfl, HK4.out⟩

set_option maxRecDepth 8000 in
set_option maxHeartbeats 1600000 in
theorem sizes_4c (w : World) (a0 a1 g FL : Int) (hT : a0 % 12 = 4) (hk : a1 % 40 = ((0 : Nat) : Int)) (hFL : bits .andNot .u8 g 40 = FL) (hf8 : Hid (bits .and .u8 FL 8 = 0)) (hf32 : Hid (bits .and .u8 FL 32 = 0)) (hf1 : Hid (bits .and .u8 FL 1 = bits .and .u8 g 1)) (h00 : 0 ≤ a0) (h10 : 0 ≤ a1) (h01 : a0 ≤ 255) (h11 : a1 ≤ 255) (hd : bits .and .u8 g 1 ≠ 0) :
    Calls Try.prog 4 #[.int .u8 a0, .int .u8 a1, .int .u8 g] w fun e w' => e = .returned (.bool true) ∧ Below w.heap.size w w' := by
  have q1 : (bits .and .u8 g 1 == 0) = false := by simpa using hd
  replace hd := Lib.hid hd
  have HR : Hid (ruleS 4 FL 0 = 0) := Lib.hid (rule_good (by show (((0 : Nat) : Int) % 6 == 0 && (bits .and .u8 FL 1 == 0 || ((0 : Nat) : Int) == 0)) = true; rw [hf1.out, q1]; rfl) (by decide))
  go_enter Try.func4, Try.ntmps4
  go_wp2_with fail
  refine (known_any w).mono ?_
  rintro e w1 ⟨rfl, hk1⟩
  have HK1 := Lib.hid hk1
  clear hk1
  go_wp2_with (refine wpList_make8 _ rfl _ _ rfl 0 rfl rfl (by omega) ?_; intro w2 ho2 hk2; refine halt ?_)
  have HO2 := Lib.hid ho2.by
  have HK2 := Lib.hid (HK1.out.trans (hk2.mono HK1.out.size))
  have hs2 : w1.heap.size ≤ w2.heap.size := hk2.size
  clear ho2 hk2
  refine Halted.go ?_
  have HF3 := Lib.hid (Blk.new w2 #[.int .u8 4, .int .u8 FL, .int .u32 0, .slice (some ⟨w1.heap.size, 0, none⟩) 0 0] 30)
  have HX3 := Lib.hid (HO2.out.alloc (.cells #[.int .u8 4, .int .u8 FL, .int .u32 0, .slice (some ⟨w1.heap.size, 0, none⟩) 0 0] 30 (0, 0)))
  have HK3 := Lib.hid (HK2.out.alloc HK2.out.size (.cells #[.int .u8 4, .int .u8 FL, .int .u32 0, .slice (some ⟨w1.heap.size, 0, none⟩) 0 0] 30 (0, 0)))
  go_wp2_with fail
  refine (readR 4 FL 0 _ 0 0 _ (by decide) (by decide) HX3.out (by omega) (by decide) hf8.out hf32.out).mono ?_
  rw [HR.out]
  rintro e w4 ⟨a5, n5, c5, b5, m5, d5, cc, ss, ii, rfl, hk4⟩
  unfold PyV
  have HF4 := Lib.hid (((Below.keeps hk4).blk HF3.out (by simp)).alloc (.cells #[.slice a5 n5 c5, .slice b5 m5 d5, .int .u32 cc, .int .u32 ss, .int .u32 ii] 33 (0, 0)))
  have HK4 := Lib.hid ((HK3.out.trans (hk4.mono HK3.out.size)).alloc (Nat.le_trans HK3.out.size hk4.size) (.cells #[.slice a5 n5 c5, .slice b5 m5 d5, .int .u32 cc, .int .u32 ss, .int .u32 ii] 33 (0, 0)))
  have f0 : (w4.alloc (.cells #[.slice a5 n5 c5, .slice b5 m5 d5, .int .u32 cc, .int .u32 ss, .int .u32 ii] 33 (0, 0))).cell? ⟨w2.heap.size, 0, none⟩ = some (.int .u8 4) := HF4.out.cell 0
  clear hk4
  go_wp2_with fail
  go_returns
  exact ⟨rfl, HK4.out⟩

set_option maxRecDepth 8000 in
set_option maxHeartbeats 1600000 in
theorem sizes_4d (w : World) (a0 a1 g FL : Int) (k : Nat) (hT : a0 % 12 = 4) (hk : a1 % 40 = ((k : Nat) : Int)) (hk40 : k < 40) (hFL : bits .andNot .u8 g 40 = FL) (hf8 : Hid (bits .and .u8 FL 8 = 0)) (hf32 : Hid (bits .and .u8 FL 32 = 0)) (hf1 : Hid (bits .and .u8 FL 1 = bits .and .u8 g 1)) (h00 : 0 ≤ a0) (h10 : 0 ≤ a1) (h01 : a0 ≤ 255) (h11 : a1 ≤ 255) (hc : k % 6 = 0) (hd : bits .and .u8 g 1 ≠ 0) (he : k ≠ 0) :
    Calls Try.prog 4 #[.int .u8 a0, .int .u8 a1, .int .u8 g] w fun e w' => e = .returned (.bool true) ∧ Below w.heap.size w w' := by
  have q : ((k : Int) % 6 == 0) = true := by simp; omega
  have q1 : (bits .and .u8 g 1 == 0) = false := by simpa using hd
  have q2 : ((k : Int) == 0) = false := by simp; omega
  replace hc := Lib.hid hc
  replace hd := Lib.hid hd
  replace he := Lib.hid he
  have HR : Hid (ruleS 4 FL k = 1) := Lib.hid (rule_bad (by show (((k : Nat) : Int) % 6 == 0 && (bits .and .u8 FL 1 == 0 || ((k : Nat) : Int) == 0)) = false; rw [q, hf1.out, q1, q2]; rfl))
  go_enter Try.func4, Try.ntmps4
  go_wp2_with fail
  refine (known_any w).mono ?_
  rintro e w1 ⟨rfl, hk1⟩
  have HK1 := Lib.hid hk1
  clear hk1
  go_wp2_with (refine wpList_make8 _ rfl _ _ rfl k rfl rfl (by omega) ?_; intro w2 ho2 hk2; refine halt ?_)
  have HO2 := Lib.hid ho2.by
  have HK2 := Lib.hid (HK1.out.trans (hk2.mono HK1.out.size))
  have hs2 : w1.heap.size ≤ w2.heap.size := hk2.size
  clear ho2 hk2
  refine Halted.go ?_
  have HF3 := Lib.hid (Blk.new w2 #[.int .u8 4, .int .u8 FL, .int .u32 0, .slice (some ⟨w1.heap.size, 0, none⟩) k k] 30)
  have HX3 := Lib.hid (HO2.out.alloc (.cells #[.int .u8 4, .int .u8 FL, .int .u32 0, .slice (some ⟨w1.heap.size, 0, none⟩) k k] 30 (0, 0)))
  have HK3 := Lib.hid (HK2.out.alloc HK2.out.size (.cells #[.int .u8 4, .int .u8 FL, .int .u32 0, .slice (some ⟨w1.heap.size, 0, none⟩) k k] 30 (0, 0)))
  go_wp2_with fail
  refine (readR 4 FL 0 _ k k _ (by decide) (by decide) HX3.out (by omega) (by decide) hf8.out hf32.out).mono ?_
  rw [HR.out]
  rintro e w4 ⟨a5, n5, c5, b5, m5, d5, cc, ss, ii, rfl, hk4⟩
  unfold PyV
  have HF4 := Lib.hid (((Below.keeps hk4).blk HF3.out (by simp)).alloc (.cells #[.slice a5 n5 c5, .slice b5 m5 d5, .int .u32 cc, .int .u32 ss, .int .u32 ii] 33 (0, 0)))
  have HK4 := Lib.hid ((HK3.out.trans (hk4.mono HK3.out.size)).alloc (Nat.le_trans HK3.out.size hk4.size) (.cells #[.slice a5 n5 c5, .slice b5 m5 d5, .int .u32 cc, .int .u32 ss, .int .u32 ii] 33 (0, 0)))
  have f0 : (w4.alloc (.cells #[.slice a5 n5 c5, .slice b5 m5 d5, .int .u32 cc, .int .u32 ss, .int .u32 ii] 33 (0, 0))).cell? ⟨w2.heap.size, 0, none⟩ = some (.int .u8 4) := HF4.out.cell 0
  clear hk4
  go_wp2_with fail
  go_returns
  exact ⟨rfl, HK4.out⟩

set_option maxRecDepth 8000 in
set_option maxHeartbeats 1600000 in
theorem sizes_5a (w : World) (a0 a1 g FL : Int) (k : Nat) (hT : a0 % 12 = 5) (hk : a1 % 40 = ((k : Nat) : Int)) (hk40 : k < 40) (hFL : bits .andNot .u8 g 40 = FL) (hf8 : Hid (bits .and .u8 FL 8 = 0)) (hf32 : Hid (bits .and .u8 FL 32 = 0)) (hf1 : Hid (bits .and .u8 FL 1 = bits .and .u8 g 1)) (h00 : 0 ≤ a0) (h10 : 0 ≤ a1) (h01 : a0 ≤ 255) (h11 : a1 ≤ 255) (hc : 4 ≤ k) :
    Calls Try.prog 4 #[.int .u8 a0, .int .u8 a1, .int .u8 g] w fun e w' => e = .returned (.bool true) ∧ Below w.heap.size w w' := by
  have q : (4 : Int) ≤ (k : Int) := by omega
  replace hc := Lib.hid hc
  have HR : Hid (ruleS 5 FL k = 0) := Lib.hid (rule_good (by show decide (aheadI 5 FL ≤ (k : Int)) = true; rw [ahead_push hf8.out hf32.out]; exact decide_eq_true q) (by decide))
  go_enter Try.func4, Try.ntmps4
  go_wp2_with fail
  refine (known_any w).mono ?_
  rintro e w1 ⟨rfl, hk1⟩
  have HK1 := Lib.hid hk1
  clear hk1
  go_wp2_with (refine wpList_make8 _ rfl _ _ rfl k rfl rfl (by omega) ?_; intro w2 ho2 hk2; refine halt ?_)
  have HO2 := Lib.hid ho2.by
  have HK2 := Lib.hid (HK1.out.trans (hk2.mono HK1.out.size))
  have hs2 : w1.heap.size ≤ w2.heap.size := hk2.size
  clear ho2 hk2
  refine Halted.go ?_
  have HF3 := Lib.hid (Blk.new w2 #[.int .u8 5, .int .u8 FL, .int .u32 1, .slice (some ⟨w1.heap.size, 0, none⟩) k k] 30)
  have HX3 := Lib.hid (HO2.out.alloc (.cells #[.int .u8 5, .int .u8 FL, .int .u32 1, .slice (some ⟨w1.heap.size, 0, none⟩) k k] 30 (0, 0)))
  have HK3 := Lib.hid (HK2.out.alloc HK2.out.size (.cells #[.int .u8 5, .int .u8 FL, .int .u32 1, .slice (some ⟨w1.heap.size, 0, none⟩) k k] 30 (0, 0)))
  go_wp2_with fail
  refine (readR 5 FL 1 _ k k _ (by decide) (by decide) HX3.out (by omega) (by decide) hf8.out hf32.out).mono ?_
  rw [HR.out]
  rintro e w4 ⟨a5, n5, c5, b5, m5, d5, cc, ss, ii, rfl, hk4⟩
  unfold PyV
  have HF4 := Lib.hid (((Below.keeps hk4).blk HF3.out (by simp)).alloc (.cells #[.slice a5 n5 c5, .slice b5 m5 d5, .int .u32 cc, .int .u32 ss, .int .u32 ii] 33 (0, 0)))
  have HK4 := Lib.hid ((HK3.out.trans (hk4.mono HK3.out.size)).alloc (Nat.le_trans HK3.out.size hk4.size) (.cells #[.slice a5 n5 c5, .slice b5 m5 d5, .int .u32 cc, .int .u32 ss, .int .u32 ii] 33 (0, 0)))
  have f0 : (w4.alloc (.cells #[.slice a5 n5 c5, .slice b5 m5 d5, .int .u32 cc, .int .u32 ss, .int .u32 ii] 33 (0, 0))).cell? ⟨w2.heap.size, 0, none⟩ = some (.int .u8 5) := HF4.out.cell 0
  clear hk4
  go_wp2_with fail
  go_returns
  exact ⟨rfl, HK4.out⟩

set_option maxRecDepth 8000 in
set_option maxHeartbeats 1600000 in
theorem sizes_5b (w : World) (a0 a1 g FL : Int) (k : Nat) (hT : a0 % 12 = 5) (hk : a1 % 40 = ((k : Nat) : Int)) (hk40 : k < 40) (hFL : bits .andNot .u8 g 40 = FL) (hf8 : Hid (bits .and .u8 FL 8 = 0)) (hf32 : Hid (bits .and .u8 FL 32 = 0)) (hf1 : Hid (bits .and .u8 FL 1 = bits .and .u8 g 1)) (h00 : 0 ≤ a0) (h10 : 0 ≤ a1) (h01 : a0 ≤ 255) (h11 : a1 ≤ 255) (hc : ¬ 4 ≤ k) :
    Calls Try.prog 4 #[.int .u8 a0, .int .u8 a1, .int .u8 g] w fun e w' => e = .returned (.bool true) ∧ Below w.heap.size w w' := by
  have q : decide ((4 : Int) ≤ (k : Int)) = false := by simp; omega
  replace hc := Lib.hid hc
  have HR : Hid (ruleS 5 FL k = 1) := Lib.hid (rule_bad (by show decide (aheadI 5 FL ≤ (k : Int)) = false; rw [ahead_push hf8.out hf32.out]; exact q))
  go_enter Try.func4, Try.ntmps4
  go_wp2_with fail
  refine (known_any w).mono ?_
  rintro e w1 ⟨rfl, hk1⟩
  have HK1 := Lib.hid hk1
  clear hk1
  go_wp2_with (refine wpList_make8 _ rfl _ _ rfl k rfl rfl (by omega) ?_; intro w2 ho2 hk2; refine halt ?_)
  have HO2 := Lib.hid ho2.by
  have HK2 := Lib.hid (HK1.out.trans (hk2.mono HK1.out.size))
  have hs2 : w1.heap.size ≤ w2.heap.size := hk2.size
  clear ho2 hk2
  refine Halted.go ?_
  have HF3 := Lib.hid (Blk.new w2 #[.int .u8 5, .int .u8 FL, .int .u32 1, .slice (some ⟨w1.heap.size, 0, none⟩) k k] 30)
  have HX3 := Lib.hid (HO2.out.alloc (.cells #[.int .u8 5, .int .u8 FL, .int .u32 1, .slice (some ⟨w1.heap.size, 0, none⟩) k k] 30 (0, 0)))
  have HK3 := Lib.hid (HK2.out.alloc HK2.out.size (.cells #[.int .u8 5, .int .u8 FL, .int .u32 1, .slice (some ⟨w1.heap.size, 0, none⟩) k k] 30 (0, 0)))
  go_wp2_with fail
  refine (readR 5 FL 1 _ k k _ (by decide) (by decide) HX3.out (by omega) (by decide) hf8.out hf32.out).mono ?_
  rw [HR.out]
  rintro e w4 ⟨a5, n5, c5, b5, m5, d5, cc, ss, ii, rfl, hk4⟩
  unfold PyV
  have HF4 := Lib.hid (((Below.keeps hk4).blk HF3.out (by simp)).alloc (.cells #[.slice a5 n5 c5, .slice b5 m5 d5, .int .u32 cc, .int .u32 ss, .int .u32 ii] 33 (0, 0)))
  have HK4 := Lib.hid ((HK3.out.trans (hk4.mono HK3.out.size)).alloc (Nat.le_trans HK3.out.size hk4.size) (.cells #[.slice a5 n5 c5, .slice b5 m5 d5, .int .u32 cc, .int .u32 ss, .int .u32 ii] 33 (0, 0)))
  have f0 : (w4.alloc (.cells #[.slice a5 n5 c5, .slice b5 m5 d5, .int .u32 cc, .int .u32 ss, .int .u32 ii] 33 (0, 0))).cell? ⟨w2.heap.size, 0, none⟩ = some (.int .u8 5) := HF4.out.cell 0
  clear hk4
  go_wp2_with fail
  go_returns
  exact ⟨rfl, HK4.out⟩

set_option maxRecDepth 8000 in
set_option maxHeartbeats 1600000 in
theorem sizes_6a (w : World) (a0 a1 g FL : Int) (hT : a0 % 12 = 6) (hk : a1 % 40 = ((8 : Nat) : Int)) (hFL : bits .andNot .u8 g 40 = FL) (hf8 : Hid (bits .and .u8 FL 8 = 0)) (hf32 : Hid (bits .and .u8 FL 32 = 0)) (hf1 : Hid (bits .and .u8 FL 1 = bits .and .u8 g 1)) (h00 : 0 ≤ a0) (h10 : 0 ≤ a1) (h01 : a0 ≤ 255) (h11 : a1 ≤ 255)  :
    Calls Try.prog 4 #[.int .u8 a0, .int .u8 a1, .int .u8 g] w fun e w' => e = .returned (.bool true) ∧ Below w.heap.size w w' := by
  have HR : Hid (ruleS 6 FL 8 = 0) := Lib.hid (rule_good rfl (by decide))
  go_enter Try.func4, Try.ntmps4
  go_wp2_with fail
  refine (known_any w).mono ?_
  rintro e w1 ⟨rfl, hk1⟩
  have HK1 := Lib.hid hk1
  clear hk1
  go_wp2_with (refine wpList_make8 _ rfl _ _ rfl 8 rfl rfl (by omega) ?_; intro w2 ho2 hk2; refine halt ?_)
  have HO2 := Lib.hid ho2.by
  have HK2 := Lib.hid (HK1.out.trans (hk2.mono HK1.out.size))
  have hs2 : w1.heap.size ≤ w2.heap.size := hk2.size
  clear ho2 hk2
  refine Halted.go ?_
  have HF3 := Lib.hid (Blk.new w2 #[.int .u8 6, .int .u8 FL, .int .u32 0, .slice (some ⟨w1.heap.size, 0, none⟩) 8 8] 30)
  have HX3 := Lib.hid (HO2.out.alloc (.cells #[.int .u8 6, .int .u8 FL, .int .u32 0, .slice (some ⟨w1.heap.size, 0, none⟩) 8 8] 30 (0, 0)))
  have HK3 := Lib.hid (HK2.out.alloc HK2.out.size (.cells #[.int .u8 6, .int .u8 FL, .int .u32 0, .slice (some ⟨w1.heap.size, 0, none⟩) 8 8] 30 (0, 0)))
  go_wp2_with fail
  refine (readR 6 FL 0 _ 8 8 _ (by decide) (by decide) HX3.out (by omega) (by decide) hf8.out hf32.out).mono ?_
  rw [HR.out]
  rintro e w4 ⟨a5, n5, c5, b5, m5, d5, cc, ss, ii, rfl, hk4⟩
  unfold PyV
  have HF4 := Lib.hid (((Below.keeps hk4).blk HF3.out (by simp)).alloc (.cells #[.slice a5 n5 c5, .slice b5 m5 d5, .int .u32 cc, .int .u32 ss, .int .u32 ii] 33 (0, 0)))
  have HK4 := Lib.hid ((HK3.out.trans (hk4.mono HK3.out.size)).alloc (Nat.le_trans HK3.out.size hk4.size) (.cells #[.slice a5 n5 c5, .slice b5 m5 d5, .int .u32 cc, .int .u32 ss, .int .u32 ii] 33 (0, 0)))
  have f0 : (w4.alloc (.cells #[.slice a5 n5 c5, .slice b5 m5 d5, .int .u32 cc, .int .u32 ss, .int .u32 ii] 33 (0, 0))).cell? ⟨w2.heap.size, 0, none⟩ = some (.int .u8 6) := HF4.out.cell 0
  clear hk4
  go_wp2_with fail
  go_returns
  exact ⟨rfl, HK4.out⟩

set_option maxRecDepth 8000 in
set_option maxHeartbeats 1600000 in
theorem sizes_6b (w : World) (a0 a1 g FL : Int) (k : Nat) (hT : a0 % 12 = 6) (hk : a1 % 40 = ((k : Nat) : Int)) (hk40 : k < 40) (hFL : bits .andNot .u8 g 40 = FL) (hf8 : Hid (bits .and .u8 FL 8 = 0)) (hf32 : Hid (bits .and .u8 FL 32 = 0)) (hf1 : Hid (bits .and .u8 FL 1 = bits .and .u8 g 1)) (h00 : 0 ≤ a0) (h10 : 0 ≤ a1) (h01 : a0 ≤ 255) (h11 : a1 ≤ 255) (hc : k ≠ 8) :
    Calls Try.prog 4 #[.int .u8 a0, .int .u8 a1, .int .u8 g] w fun e w' => e = .returned (.bool true) ∧ Below w.heap.size w w' := by
  have q : ((k : Int) == 8) = false := by simp; omega
  replace hc := Lib.hid hc
  have HR : Hid (ruleS 6 FL k = 1) := Lib.hid (rule_bad q)
  go_enter Try.func4, Try.ntmps4
  go_wp2_with fail
  refine (known_any w).mono ?_
  rintro e w1 ⟨rfl, hk1⟩
  have HK1 := Lib.hid hk1
  clear hk1
  go_wp2_with (refine wpList_make8 _ rfl _ _ rfl k rfl rfl (by omega) ?_; intro w2 ho2 hk2; refine halt ?_)
  have HO2 := Lib.hid ho2.by
  have HK2 := Lib.hid (HK1.out.trans (hk2.mono HK1.out.size))
  have hs2 : w1.heap.size ≤ w2.heap.size := hk2.size
  clear ho2 hk2
  refine Halted.go ?_
  have HF3 := Lib.hid (Blk.new w2 #[.int .u8 6, .int .u8 FL, .int .u32 0, .slice (some ⟨w1.heap.size, 0, none⟩) k k] 30)
  have HX3 := Lib.hid (HO2.out.alloc (.cells #[.int .u8 6, .int .u8 FL, .int .u32 0, .slice (some ⟨w1.heap.size, 0, none⟩) k k] 30 (0, 0)))
  have HK3 := Lib.hid (HK2.out.alloc HK2.out.size (.cells #[.int .u8 6, .int .u8 FL, .int .u32 0, .slice (some ⟨w1.heap.size, 0, none⟩) k k] 30 (0, 0)))
  go_wp2_with fail
  refine (readR 6 FL 0 _ k k _ (by decide) (by decide) HX3.out (by omega) (by decide) hf8.out hf32.out).mono ?_
  rw [HR.out]
  rintro e w4 ⟨a5, n5, c5, b5, m5, d5, cc, ss, ii, rfl, hk4⟩
  unfold PyV
  have HF4 := Lib.hid (((Below.keeps hk4).blk HF3.out (by simp)).alloc (.cells #[.slice a5 n5 c5, .slice b5 m5 d5, .int .u32 cc, .int .u32 ss, .int .u32 ii] 33 (0, 0)))
  have HK4 := Lib.hid ((HK3.out.trans (hk4.mono HK3.out.size)).alloc (Nat.le_trans HK3.out.size hk4.size) (.cells #[.slice a5 n5 c5, .slice b5 m5 d5, .int .u32 cc, .int .u32 ss, .int .u32 ii] 33 (0, 0)))
  have f0 : (w4.alloc (.cells #[.slice a5 n5 c5, .slice b5 m5 d5, .int .u32 cc, .int .u32 ss, .int .u32 ii] 33 (0, 0))).cell? ⟨w2.heap.size, 0, none⟩ = some (.int .u8 6) := HF4.out.cell 0
  clear hk4
  go_wp2_with fail
  go_returns
  exact ⟨rfl, HK4.out⟩

set_option maxRecDepth 8000 in
set_option maxHeartbeats 1600000 in
theorem sizes_7a (w : World) (a0 a1 g FL : Int) (k : Nat) (hT : a0 % 12 = 7) (hk : a1 % 40 = ((k : Nat) : Int)) (hk40 : k < 40) (hFL : bits .andNot .u8 g 40 = FL) (hf8 : Hid (bits .and .u8 FL 8 = 0)) (hf32 : Hid (bits .and .u8 FL 32 = 0)) (hf1 : Hid (bits .and .u8 FL 1 = bits .and .u8 g 1)) (h00 : 0 ≤ a0) (h10 : 0 ≤ a1) (h01 : a0 ≤ 255) (h11 : a1 ≤ 255) (hc : 8 ≤ k) :
    Calls Try.prog 4 #[.int .u8 a0, .int .u8 a1, .int .u8 g] w fun e w' => e = .returned (.bool true) ∧ Below w.heap.size w w' := by
  have q : (8 : Int) ≤ (k : Int) := by omega
  replace hc := Lib.hid hc
  have HR : Hid (ruleS 7 FL k = 0) := Lib.hid (rule_good (decide_eq_true q) (by decide))
  go_enter Try.func4, Try.ntmps4
  go_wp2_with fail
  refine (known_any w).mono ?_
  rintro e w1 ⟨rfl, hk1⟩
  have HK1 := Lib.hid hk1
  clear hk1
  go_wp2_with (refine wpList_make8 _ rfl _ _ rfl k rfl rfl (by omega) ?_; intro w2 ho2 hk2; refine halt ?_)
  have HO2 := Lib.hid ho2.by
  have HK2 := Lib.hid (HK1.out.trans (hk2.mono HK1.out.size))
  have hs2 : w1.heap.size ≤ w2.heap.size := hk2.size
  clear ho2 hk2
  refine Halted.go ?_
  have HF3 := Lib.hid (Blk.new w2 #[.int .u8 7, .int .u8 FL, .int .u32 0, .slice (some ⟨w1.heap.size, 0, none⟩) k k] 30)
  have HX3 := Lib.hid (HO2.out.alloc (.cells #[.int .u8 7, .int .u8 FL, .int .u32 0, .slice (some ⟨w1.heap.size, 0, none⟩) k k] 30 (0, 0)))
  have HK3 := Lib.hid (HK2.out.alloc HK2.out.size (.cells #[.int .u8 7, .int .u8 FL, .int .u32 0, .slice (some ⟨w1.heap.size, 0, none⟩) k k] 30 (0, 0)))
  go_wp2_with fail
  refine (readR 7 FL 0 _ k k _ (by decide) (by decide) HX3.out (by omega) (by decide) hf8.out hf32.out).mono ?_
  rw [HR.out]
  rintro e w4 ⟨a5, n5, c5, b5, m5, d5, cc, ss, ii, rfl, hk4⟩
  unfold PyV
  have HF4 := Lib.hid (((Below.keeps hk4).blk HF3.out (by simp)).alloc (.cells #[.slice a5 n5 c5, .slice b5 m5 d5, .int .u32 cc, .int .u32 ss, .int .u32 ii] 33 (0, 0)))
  have HK4 := Lib.hid ((HK3.out.trans (hk4.mono HK3.out.size)).alloc (Nat.le_trans HK3.out.size hk4.size) (.cells #[.slice a5 n5 c5, .slice b5 m5 d5, .int .u32 cc, .int .u32 ss, .int .u32 ii] 33 (0, 0)))
  have f0 : (w4.alloc (.cells #[.slice a5 n5 c5, .slice b5 m5 d5, .int .u32 cc, .int .u32 ss, .int .u32 ii] 33 (0, 0))).cell? ⟨w2.heap.size, 0, none⟩ = some (.int .u8 7) := HF4.out.cell 0
  clear hk4
  go_wp2_with fail
  go_returns
  exact ⟨rfl, HK4.out⟩

set_option maxRecDepth 8000 in
set_option maxHeartbeats 1600000 in
theorem sizes_7b (w : World) (a0 a1 g FL : Int) (k : Nat) (hT : a0 % 12 = 7) (hk : a1 % 40 = ((k : Nat) : Int)) (hk40 : k < 40) (hFL : bits .andNot .u8 g 40 = FL) (hf8 : Hid (bits .and .u8 FL 8 = 0)) (hf32 : Hid (bits .and .u8 FL 32 = 0)) (hf1 : Hid (bits .and .u8 FL 1 = bits .and .u8 g 1)) (h00 : 0 ≤ a0) (h10 : 0 ≤ a1) (h01 : a0 ≤ 255) (h11 : a1 ≤ 255) (hc : ¬ 8 ≤ k) :
    Calls Try.prog 4 #[.int .u8 a0, .int .u8 a1, .int .u8 g] w fun e w' => e = .returned (.bool true) ∧ Below w.heap.size w w' := by
  have q : decide ((8 : Int) ≤ (k : Int)) = false := by simp; omega
  replace hc := Lib.hid hc
  have HR : Hid (ruleS 7 FL k = 1) := Lib.hid (rule_bad q)
  go_enter Try.func4, Try.ntmps4
  go_wp2_with fail
  refine (known_any w).mono ?_
  rintro e w1 ⟨rfl, hk1⟩
  have HK1 := Lib.hid hk1
  clear hk1
  go_wp2_with (refine wpList_make8 _ rfl _ _ rfl k rfl rfl (by omega) ?_; intro w2 ho2 hk2; refine halt ?_)
  have HO2 := Lib.hid ho2.by
  have HK2 := Lib.hid (HK1.out.trans (hk2.mono HK1.out.size))
  have hs2 : w1.heap.size ≤ w2.heap.size := hk2.size
  clear ho2 hk2
  refine Halted.go ?_
  have HF3 := Lib.hid (Blk.new w2 #[.int .u8 7, .int .u8 FL, .int .u32 0, .slice (some ⟨w1.heap.size, 0, none⟩) k k] 30)
  have HX3 := Lib.hid (HO2.out.alloc (.cells #[.int .u8 7, .int .u8 FL, .int .u32 0, .slice (some ⟨w1.heap.size, 0, none⟩) k k] 30 (0, 0)))
  have HK3 := Lib.hid (HK2.out.alloc HK2.out.size (.cells #[.int .u8 7, .int .u8 FL, .int .u32 0, .slice (some ⟨w1.heap.size, 0, none⟩) k k] 30 (0, 0)))
  go_wp2_with fail
  refine (readR 7 FL 0 _ k k _ (by decide) (by decide) HX3.out (by omega) (by decide) hf8.out hf32.out).mono ?_
  rw [HR.out]
  rintro e w4 ⟨a5, n5, c5, b5, m5, d5, cc, ss, ii, rfl, hk4⟩
  unfold PyV
  have HF4 := Lib.hid (((Below.keeps hk4).blk HF3.out (by simp)).alloc (.cells #[.slice a5 n5 c5, .slice b5 m5 d5, .int .u32 cc, .int .u32 ss, .int .u32 ii] 33 (0, 0)))
  have HK4 := Lib.hid ((HK3.out.trans (hk4.mono HK3.out.size)).alloc (Nat.le_trans HK3.out.size hk4.size) (.cells #[.slice a5 n5 c5, .slice b5 m5 d5, .int .u32 cc, .int .u32 ss, .int .u32 ii] 33 (0, 0)))
  have f0 : (w4.alloc (.cells #[.slice a5 n5 c5, .slice b5 m5 d5, .int .u32 cc, .int .u32 ss, .int .u32 ii] 33 (0, 0))).cell? ⟨w2.heap.size, 0, none⟩ = some (.int .u8 7) := HF4.out.cell 0
  clear hk4
  go_wp2_with fail
  go_returns
  exact ⟨rfl, HK4.out⟩

set_option maxRecDepth 8000 in
set_option maxHeartbeats 1600000 in
theorem sizes_8a (w : World) (a0 a1 g FL : Int) (hT : a0 % 12 = 8) (hk : a1 % 40 = ((4 : Nat) : Int)) (hFL : bits .andNot .u8 g 40 = FL) (hf8 : Hid (bits .and .u8 FL 8 = 0)) (hf32 : Hid (bits .and .u8 FL 32 = 0)) (hf1 : Hid (bits .and .u8 FL 1 = bits .and .u8 g 1)) (h00 : 0 ≤ a0) (h10 : 0 ≤ a1) (h01 : a0 ≤ 255) (h11 : a1 ≤ 255)  :
    Calls Try.prog 4 #[.int .u8 a0, .int .u8 a1, .int .u8 g] w fun e w' => e = .returned (.bool true) ∧ Below w.heap.size w w' := by
  have HR : Hid (ruleS 8 FL 4 = 3) := Lib.hid (rule_win rfl)
  go_enter Try.func4, Try.ntmps4
  go_wp2_with fail
  refine (known_any w).mono ?_
  rintro e w1 ⟨rfl, hk1⟩
  have HK1 := Lib.hid hk1
  clear hk1
  go_wp2_with (refine wpList_make8 _ rfl _ _ rfl 4 rfl rfl (by omega) ?_; intro w2 ho2 hk2; refine halt ?_)
  have HO2 := Lib.hid ho2.by
  have HK2 := Lib.hid (HK1.out.trans (hk2.mono HK1.out.size))
  have hs2 : w1.heap.size ≤ w2.heap.size := hk2.size
  clear ho2 hk2
  refine Halted.go ?_
  have HF3 := Lib.hid (Blk.new w2 #[.int .u8 8, .int .u8 FL, .int .u32 1, .slice (some ⟨w1.heap.size, 0, none⟩) 4 4] 30)
  have HX3 := Lib.hid (HO2.out.alloc (.cells #[.int .u8 8, .int .u8 FL, .int .u32 1, .slice (some ⟨w1.heap.size, 0, none⟩) 4 4] 30 (0, 0)))
  have HK3 := Lib.hid (HK2.out.alloc HK2.out.size (.cells #[.int .u8 8, .int .u8 FL, .int .u32 1, .slice (some ⟨w1.heap.size, 0, none⟩) 4 4] 30 (0, 0)))
  go_wp2_with fail
  refine (readR 8 FL 1 _ 4 4 _ (by decide) (by decide) HX3.out (by omega) (by decide) hf8.out hf32.out).mono ?_
  rw [HR.out]
  rintro e w4 ⟨a5, n5, c5, b5, m5, d5, cc, ss, ii, rfl, hk4⟩
  unfold PyV
  have HF4 := Lib.hid (((Below.keeps hk4).blk HF3.out (by simp)).alloc (.cells #[.slice a5 n5 c5, .slice b5 m5 d5, .int .u32 cc, .int .u32 ss, .int .u32 ii] 33 (0, 0)))
  have HK4 := Lib.hid ((HK3.out.trans (hk4.mono HK3.out.size)).alloc (Nat.le_trans HK3.out.size hk4.size) (.cells #[.slice a5 n5 c5, .slice b5 m5 d5, .int .u32 cc, .int .u32 ss, .int .u32 ii] 33 (0, 0)))
  have f0 : (w4.alloc (.cells #[.slice a5 n5 c5, .slice b5 m5 d5, .int .u32 cc, .int .u32 ss, .int .u32 ii] 33 (0, 0))).cell? ⟨w2.heap.size, 0, none⟩ = some (.int .u8 8) := HF4.out.cell 0
  clear hk4
  go_wp2_with fail
  go_returns
  exact ⟨rfl, HK4.out⟩

set_option maxRecDepth 8000 in
set_option maxHeartbeats 1600000 in
theorem sizes_8b (w : World) (a0 a1 g FL : Int) (k : Nat) (hT : a0 % 12 = 8) (hk : a1 % 40 = ((k : Nat) : Int)) (hk40 : k < 40) (hFL : bits .andNot .u8 g 40 = FL) (hf8 : Hid (bits .and .u8 FL 8 = 0)) (hf32 : Hid (bits .and .u8 FL 32 = 0)) (hf1 : Hid (bits .and .u8 FL 1 = bits .and .u8 g 1)) (h00 : 0 ≤ a0) (h10 : 0 ≤ a1) (h01 : a0 ≤ 255) (h11 : a1 ≤ 255) (hc : k ≠ 4) :
    Calls Try.prog 4 #[.int .u8 a0, .int .u8 a1, .int .u8 g] w fun e w' => e = .returned (.bool true) ∧ Below w.heap.size w w' := by
  have q : ((k : Int) == 4) = false := by simp; omega
  replace hc := Lib.hid hc
  have HR : Hid (ruleS 8 FL k = 1) := Lib.hid (rule_bad q)
  go_enter Try.func4, Try.ntmps4
  go_wp2_with fail
  refine (known_any w).mono ?_
  rintro e w1 ⟨rfl, hk1⟩
  have HK1 := Lib.hid hk1
  clear hk1
  go_wp2_with (refine wpList_make8 _ rfl _ _ rfl k rfl rfl (by omega) ?_; intro w2 ho2 hk2; refine halt ?_)
  have HO2 := Lib.hid ho2.by
  have HK2 := Lib.hid (HK1.out.trans (hk2.mono HK1.out.size))
  have hs2 : w1.heap.size ≤ w2.heap.size := hk2.size
  clear ho2 hk2
  refine Halted.go ?_
  have HF3 := Lib.hid (Blk.new w2 #[.int .u8 8, .int .u8 FL, .int .u32 1, .slice (some ⟨w1.heap.size, 0, none⟩) k k] 30)
  have HX3 := Lib.hid (HO2.out.alloc (.cells #[.int .u8 8, .int .u8 FL, .int .u32 1, .slice (some ⟨w1.heap.size, 0, none⟩) k k] 30 (0, 0)))
  have HK3 := Lib.hid (HK2.out.alloc HK2.out.size (.cells #[.int .u8 8, .int .u8 FL, .int .u32 1, .slice (some ⟨w1.heap.size, 0, none⟩) k k] 30 (0, 0)))
  go_wp2_with fail
  refine (readR 8 FL 1 _ k k _ (by decide) (by decide) HX3.out (by omega) (by decide) hf8.out hf32.out).mono ?_
  rw [HR.out]
  rintro e w4 ⟨a5, n5, c5, b5, m5, d5, cc, ss, ii, rfl, hk4⟩
  unfold PyV
  have HF4 := Lib.hid (((Below.keeps hk4).blk HF3.out (by simp)).alloc (.cells #[.slice a5 n5 c5, .slice b5 m5 d5, .int .u32 cc, .int .u32 ss, .int .u32 ii] 33 (0, 0)))
  have HK4 := Lib.hid ((HK3.out.trans (hk4.mono HK3.out.size)).alloc (Nat.le_trans HK3.out.size hk4.size) (.cells #[.slice a5 n5 c5, .slice b5 m5 d5, .int .u32 cc, .int .u32 ss, .int .u32 ii] 33 (0, 0)))
  have f0 : (w4.alloc (.cells #[.slice a5 n5 c5, .slice b5 m5 d5, .int .u32 cc, .int .u32 ss, .int .u32 ii] 33 (0, 0))).cell? ⟨w2.heap.size, 0, none⟩ = some (.int .u8 8) := HF4.out.cell 0
  clear hk4
  go_wp2_with fail
  go_returns
  exact ⟨rfl, HK4.out⟩

set_option maxRecDepth 8000 in
set_option maxHeartbeats 1600000 in
theorem sizes_9a (w : World) (a0 a1 g FL : Int) (k : Nat) (hT : a0 % 12 = 9) (hk : a1 % 40 = ((k : Nat) : Int)) (hk40 : k < 40) (hFL : bits .andNot .u8 g 40 = FL) (hf8 : Hid (bits .and .u8 FL 8 = 0)) (hf32 : Hid (bits .and .u8 FL 32 = 0)) (hf1 : Hid (bits .and .u8 FL 1 = bits .and .u8 g 1)) (h00 : 0 ≤ a0) (h10 : 0 ≤ a1) (h01 : a0 ≤ 255) (h11 : a1 ≤ 255)  :
    Calls Try.prog 4 #[.int .u8 a0, .int .u8 a1, .int .u8 g] w fun e w' => e = .returned (.bool true) ∧ Below w.heap.size w w' := by
  have HR : Hid (ruleS 9 FL k = 0) := Lib.hid (rule_good rfl (by decide))
  go_enter Try.func4, Try.ntmps4
  go_wp2_with fail
  refine (known_any w).mono ?_
  rintro e w1 ⟨rfl, hk1⟩
  have HK1 := Lib.hid hk1
  clear hk1
  go_wp2_with (refine wpList_make8 _ rfl _ _ rfl k rfl rfl (by omega) ?_; intro w2 ho2 hk2; refine halt ?_)
  have HO2 := Lib.hid ho2.by
  have HK2 := Lib.hid (HK1.out.trans (hk2.mono HK1.out.size))
  have hs2 : w1.heap.size ≤ w2.heap.size := hk2.size
  clear ho2 hk2
  refine Halted.go ?_
  have HF3 := Lib.hid (Blk.new w2 #[.int .u8 9, .int .u8 FL, .int .u32 1, .slice (some ⟨w1.heap.size, 0, none⟩) k k] 30)
  have HX3 := Lib.hid (HO2.out.alloc (.cells #[.int .u8 9, .int .u8 FL, .int .u32 1, .slice (some ⟨w1.heap.size, 0, none⟩) k k] 30 (0, 0)))
  have HK3 := Lib.hid (HK2.out.alloc HK2.out.size (.cells #[.int .u8 9, .int .u8 FL, .int .u32 1, .slice (some ⟨w1.heap.size, 0, none⟩) k k] 30 (0, 0)))
  go_wp2_with fail
  refine (readR 9 FL 1 _ k k _ (by decide) (by decide) HX3.out (by omega) (by decide) hf8.out hf32.out).mono ?_
  rw [HR.out]
  rintro e w4 ⟨a5, n5, c5, b5, m5, d5, cc, ss, ii, rfl, hk4⟩
  unfold PyV
  have HF4 := Lib.hid (((Below.keeps hk4).blk HF3.out (by simp)).alloc (.cells #[.slice a5 n5 c5, .slice b5 m5 d5, .int .u32 cc, .int .u32 ss, .int .u32 ii] 33 (0, 0)))
  have HK4 := Lib.hid ((HK3.out.trans (hk4.mono HK3.out.size)).alloc (Nat.le_trans HK3.out.size hk4.size) (.cells #[.slice a5 n5 c5, .slice b5 m5 d5, .int .u32 cc, .int .u32 ss, .int .u32 ii] 33 (0, 0)))
  have f0 : (w4.alloc (.cells #[.slice a5 n5 c5, .slice b5 m5 d5, .int .u32 cc, .int .u32 ss, .int .u32 ii] 33 (0, 0))).cell? ⟨w2.heap.size, 0, none⟩ = some (.int .u8 9) := HF4.out.cell 0
  clear hk4
  go_wp2_with fail
  go_returns
  exact ⟨rfl, HK4.out⟩

set_option maxRecDepth 8000 in
set_option maxHeartbeats 1600000 in
theorem sizes_10a (w : World) (a0 a1 g FL : Int) (k : Nat) (hT : a0 % 12 = 10) (hk : a1 % 40 = ((k : Nat) : Int)) (hk40 : k < 40) (hFL : bits .andNot .u8 g 40 = FL) (hf8 : Hid (bits .and .u8 FL 8 = 0)) (hf32 : Hid (bits .and .u8 FL 32 = 0)) (hf1 : Hid (bits .and .u8 FL 1 = bits .and .u8 g 1)) (h00 : 0 ≤ a0) (h10 : 0 ≤ a1) (h01 : a0 ≤ 255) (h11 : a1 ≤ 255)  :
    Calls Try.prog 4 #[.int .u8 a0, .int .u8 a1, .int .u8 g] w fun e w' => e = .returned (.bool true) ∧ Below w.heap.size w w' := by
  have HR : Hid (ruleS 10 FL k = 0) := Lib.hid (rule_good rfl (by decide))
  go_enter Try.func4, Try.ntmps4
  go_wp2_with fail
  refine (known_any w).mono ?_
  rintro e w1 ⟨rfl, hk1⟩
  have HK1 := Lib.hid hk1
  clear hk1
  go_wp2_with (refine wpList_make8 _ rfl _ _ rfl k rfl rfl (by omega) ?_; intro w2 ho2 hk2; refine halt ?_)
  have HO2 := Lib.hid ho2.by
  have HK2 := Lib.hid (HK1.out.trans (hk2.mono HK1.out.size))
  have hs2 : w1.heap.size ≤ w2.heap.size := hk2.size
  clear ho2 hk2
  refine Halted.go ?_
  have HF3 := Lib.hid (Blk.new w2 #[.int .u8 10, .int .u8 FL, .int .u32 1, .slice (some ⟨w1.heap.size, 0, none⟩) k k] 30)
  have HX3 := Lib.hid (HO2.out.alloc (.cells #[.int .u8 10, .int .u8 FL, .int .u32 1, .slice (some ⟨w1.heap.size, 0, none⟩) k k] 30 (0, 0)))
  have HK3 := Lib.hid (HK2.out.alloc HK2.out.size (.cells #[.int .u8 10, .int .u8 FL, .int .u32 1, .slice (some ⟨w1.heap.size, 0, none⟩) k k] 30 (0, 0)))
  go_wp2_with fail
  refine (readR 10 FL 1 _ k k _ (by decide) (by decide) HX3.out (by omega) (by decide) hf8.out hf32.out).mono ?_
  rw [HR.out]
  rintro e w4 ⟨a5, n5, c5, b5, m5, d5, cc, ss, ii, rfl, hk4⟩
  unfold PyV
  have HF4 := Lib.hid (((Below.keeps hk4).blk HF3.out (by simp)).alloc (.cells #[.slice a5 n5 c5, .slice b5 m5 d5, .int .u32 cc, .int .u32 ss, .int .u32 ii] 33 (0, 0)))
  have HK4 := Lib.hid ((HK3.out.trans (hk4.mono HK3.out.size)).alloc (Nat.le_trans HK3.out.size hk4.size) (.cells #[.slice a5 n5 c5, .slice b5 m5 d5, .int .u32 cc, .int .u32 ss, .int .u32 ii] 33 (0, 0)))
  have f0 : (w4.alloc (.cells #[.slice a5 n5 c5, .slice b5 m5 d5, .int .u32 cc, .int .u32 ss, .int .u32 ii] 33 (0, 0))).cell? ⟨w2.heap.size, 0, none⟩ = some (.int .u8 10) := HF4.out.cell 0
  clear hk4
  go_wp2_with fail
  go_returns
  exact ⟨rfl, HK4.out⟩

set_option maxRecDepth 8000 in
set_option maxHeartbeats 1600000 in
theorem sizes_11a (w : World) (a0 a1 g FL : Int) (k : Nat) (hT : a0 % 12 = 11) (hk : a1 % 40 = ((k : Nat) : Int)) (hk40 : k < 40) (hFL : bits .andNot .u8 g 40 = FL) (hf8 : Hid (bits .and .u8 FL 8 = 0)) (hf32 : Hid (bits .and .u8 FL 32 = 0)) (hf1 : Hid (bits .and .u8 FL 1 = bits .and .u8 g 1)) (h00 : 0 ≤ a0) (h10 : 0 ≤ a1) (h01 : a0 ≤ 255) (h11 : a1 ≤ 255)  :
    Calls Try.prog 4 #[.int .u8 a0, .int .u8 a1, .int .u8 g] w fun e w' => e = .returned (.bool true) ∧ Below w.heap.size w w' := by
  have HR : Hid (ruleS 11 FL k = 0) := Lib.hid (rule_good rfl (by decide))
  go_enter Try.func4, Try.ntmps4
  go_wp2_with fail
  refine (known_any w).mono ?_
  rintro e w1 ⟨rfl, hk1⟩
  have HK1 := Lib.hid hk1
  clear hk1
  go_wp2_with (refine wpList_make8 _ rfl _ _ rfl k rfl rfl (by omega) ?_; intro w2 ho2 hk2; refine halt ?_)
  have HO2 := Lib.hid ho2.by
  have HK2 := Lib.hid (HK1.out.trans (hk2.mono HK1.out.size))
  have hs2 : w1.heap.size ≤ w2.heap.size := hk2.size
  clear ho2 hk2
  refine Halted.go ?_
  have HF3 := Lib.hid (Blk.new w2 #[.int .u8 11, .int .u8 FL, .int .u32 1, .slice (some ⟨w1.heap.size, 0, none⟩) k k] 30)
  have HX3 := Lib.hid (HO2.out.alloc (.cells #[.int .u8 11, .int .u8 FL, .int .u32 1, .slice (some ⟨w1.heap.size, 0, none⟩) k k] 30 (0, 0)))
  have HK3 := Lib.hid (HK2.out.alloc HK2.out.size (.cells #[.int .u8 11, .int .u8 FL, .int .u32 1, .slice (some ⟨w1.heap.size, 0, none⟩) k k] 30 (0, 0)))
  go_wp2_with fail
  refine (readR 11 FL 1 _ k k _ (by decide) (by decide) HX3.out (by omega) (by decide) hf8.out hf32.out).mono ?_
  rw [HR.out]
  rintro e w4 ⟨a5, n5, c5, b5, m5, d5, cc, ss, ii, rfl, hk4⟩
  unfold PyV
  have HF4 := Lib.hid (((Below.keeps hk4).blk HF3.out (by simp)).alloc (.cells #[.slice a5 n5 c5, .slice b5 m5 d5, .int .u32 cc, .int .u32 ss, .int .u32 ii] 33 (0, 0)))
  have HK4 := Lib.hid ((HK3.out.trans (hk4.mono HK3.out.size)).alloc (Nat.le_trans HK3.out.size hk4.size) (.cells #[.slice a5 n5 c5, .slice b5 m5 d5, .int .u32 cc, .int .u32 ss, .int .u32 ii] 33 (0, 0)))
  have f0 : (w4.alloc (.cells #[.slice a5 n5 c5, .slice b5 m5 d5, .int .u32 cc, .int .u32 ss, .int .u32 ii] 33 (0, 0))).cell? ⟨w2.heap.size, 0, none⟩ = some (.int .u8 11) := HF4.out.cell 0
  clear hk4
  go_wp2_with fail
  go_returns
  exact ⟨rfl, HK4.out⟩

theorem walkPaySizes (w : World) (a0 : Int) (w0 : (Lit.int .u8 a0).wf = true) (a1 : Int) (w1 : (Lit.int .u8 a1).wf = true) (a2 : Int) (w2 : (Lit.int .u8 a2).wf = true) :
    Calls Try.prog 4 #[.int .u8 a0, .int .u8 a1, .int .u8 a2] w fun e w' => e = .returned (.bool true) ∧ Below w.heap.size w w' := by
  obtain ⟨h00, h01⟩ := wf_u8_iff w0
  obtain ⟨h10, h11⟩ := wf_u8_iff w1
  obtain ⟨h20, h21⟩ := wf_u8_iff w2
  obtain ⟨f8, f32, f1⟩ := flags_ok h20 h21
  obtain ⟨k, hk, hk40⟩ : ∃ k : Nat, a1 % 40 = (k : Int) ∧ k < 40 := ⟨(a1 % 40).toNat, by omega, by omega⟩
  rcases (show a0 % 12 = 0 ∨ a0 % 12 = 1 ∨ a0 % 12 = 2 ∨ a0 % 12 = 3 ∨ a0 % 12 = 4 ∨ a0 % 12 = 5 ∨ a0 % 12 = 6 ∨ a0 % 12 = 7 ∨ a0 % 12 = 8 ∨ a0 % 12 = 9 ∨ a0 % 12 = 10 ∨ a0 % 12 = 11 by omega) with hT | hT | hT | hT | hT | hT | hT | hT | hT | hT | hT | hT
  · exact sizes_0a w a0 a1 a2 _ k hT hk hk40 rfl (Lib.hid f8) (Lib.hid f32) (Lib.hid f1) h00 h10 h01 h11
  · exact sizes_1a w a0 a1 a2 _ k hT hk hk40 rfl (Lib.hid f8) (Lib.hid f32) (Lib.hid f1) h00 h10 h01 h11
  · by_cases hc : k = 5
    · subst hc; exact sizes_2a w a0 a1 a2 _ hT hk rfl (Lib.hid f8) (Lib.hid f32) (Lib.hid f1) h00 h10 h01 h11
    · exact sizes_2b w a0 a1 a2 _ k hT hk hk40 rfl (Lib.hid f8) (Lib.hid f32) (Lib.hid f1) h00 h10 h01 h11 hc
  · by_cases hc : k = 4
    · subst hc; exact sizes_3a w a0 a1 a2 _ hT hk rfl (Lib.hid f8) (Lib.hid f32) (Lib.hid f1) h00 h10 h01 h11
    · exact sizes_3b w a0 a1 a2 _ k hT hk hk40 rfl (Lib.hid f8) (Lib.hid f32) (Lib.hid f1) h00 h10 h01 h11 hc
  · by_cases hc : k % 6 = 0
    · by_cases hd : bits .and .u8 a2 1 = 0
      · exact sizes_4b w a0 a1 a2 _ k hT hk hk40 rfl (Lib.hid f8) (Lib.hid f32) (Lib.hid f1) h00 h10 h01 h11 hc hd
      · by_cases he : k = 0
        · subst he; exact sizes_4c w a0 a1 a2 _ hT hk rfl (Lib.hid f8) (Lib.hid f32) (Lib.hid f1) h00 h10 h01 h11 hd
        · exact sizes_4d w a0 a1 a2 _ k hT hk hk40 rfl (Lib.hid f8) (Lib.hid f32) (Lib.hid f1) h00 h10 h01 h11 hc hd he
    · exact sizes_4a w a0 a1 a2 _ k hT hk hk40 rfl (Lib.hid f8) (Lib.hid f32) (Lib.hid f1) h00 h10 h01 h11 hc
  · by_cases hc : 4 ≤ k
    · exact sizes_5a w a0 a1 a2 _ k hT hk hk40 rfl (Lib.hid f8) (Lib.hid f32) (Lib.hid f1) h00 h10 h01 h11 hc
    · exact sizes_5b w a0 a1 a2 _ k hT hk hk40 rfl (Lib.hid f8) (Lib.hid f32) (Lib.hid f1) h00 h10 h01 h11 hc
  · by_cases hc : k = 8
    · subst hc; exact sizes_6a w a0 a1 a2 _ hT hk rfl (Lib.hid f8) (Lib.hid f32) (Lib.hid f1) h00 h10 h01 h11
    · exact sizes_6b w a0 a1 a2 _ k hT hk hk40 rfl (Lib.hid f8) (Lib.hid f32) (Lib.hid f1) h00 h10 h01 h11 hc
  · by_cases hc : 8 ≤ k
    · exact sizes_7a w a0 a1 a2 _ k hT hk hk40 rfl (Lib.hid f8) (Lib.hid f32) (Lib.hid f1) h00 h10 h01 h11 hc
    · exact sizes_7b w a0 a1 a2 _ k hT hk hk40 rfl (Lib.hid f8) (Lib.hid f32) (Lib.hid f1) h00 h10 h01 h11 hc
  · by_cases hc : k = 4
    · subst hc; exact sizes_8a w a0 a1 a2 _ hT hk rfl (Lib.hid f8) (Lib.hid f32) (Lib.hid f1) h00 h10 h01 h11
    · exact sizes_8b w a0 a1 a2 _ k hT hk hk40 rfl (Lib.hid f8) (Lib.hid f32) (Lib.hid f1) h00 h10 h01 h11 hc
  · exact sizes_9a w a0 a1 a2 _ k hT hk hk40 rfl (Lib.hid f8) (Lib.hid f32) (Lib.hid f1) h00 h10 h01 h11
  · exact sizes_10a w a0 a1 a2 _ k hT hk hk40 rfl (Lib.hid f8) (Lib.hid f32) (Lib.hid f1) h00 h10 h01 h11
  · exact sizes_11a w a0 a1 a2 _ k hT hk hk40 rfl (Lib.hid f8) (Lib.hid f32) (Lib.hid f1) h00 h10 h01 h11

end Go.Proofs.Ytcckdahpagkbaaa
