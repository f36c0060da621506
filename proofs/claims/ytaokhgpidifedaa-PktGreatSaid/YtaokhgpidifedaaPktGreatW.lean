/- The walk of PktGreat. -/
import Derived.Test.YtaokhgpidifedaaPktM
namespace Go.Proofs.Ytaokhgpidifedaa
open Go.RowKit Go.Deep

set_option maxRecDepth 100000 in
set_option maxHeartbeats 3200000 in
theorem great_0_false_le (w : World) (wt n : Int) (q : Nat) (hr : wt % 4 = 0) (w0 : 0 ≤ wt) (w255 : wt ≤ 255) (n0 : 0 ≤ n) (n255 : n ≤ 255) (hq : n % 5 = (q : Int)) (hq5 : q < 5) (hqI : (q : Int) - 2 ≤ 0) :
    Calls Try.prog 4 #[.int .u8 wt, .int .u8 n, .bool false] w fun e w' => e = .returned (.bool true) ∧ Below w.heap.size w w' := by
  go_enter Try.func4, Try.ntmps4
  go_wp2_with fail
  refine (known_any w).mono ?_
  rintro e w1 ⟨rfl, hk1⟩
  have HK1 := Lib.hid hk1
  clear hk1
  go_wp2_with (refine wpList_make8 _ rfl _ _ rfl 8 rfl rfl (by omega) ?_; intro w2 ho2 hk2; refine halt ?_)
  have HO2 := Lib.hid ho2
  have HK2 := Lib.hid (HK1.out.trans (hk2.mono HK1.out.size))
  have hs2 : w1.heap.size < w2.heap.size := (ho2.ge _ rfl).2
  clear ho2 hk2
  refine Halted.go ?_
  go_wp2_with (refine wpList_make8 _ rfl _ _ rfl (1188 + q) (show Value.int .i64 ((1190 : Int) + ((q : Int) - 2)) = Value.int .i64 (((1188 + q) : Nat) : Int) from by congr 1; omega) (show Value.int .i64 ((1190 : Int) + ((q : Int) - 2)) = Value.int .i64 (((1188 + q) : Nat) : Int) from by congr 1; omega) (by omega) ?_; intro w3 ho3 hk3; refine halt ?_)
  have hsa : (w2.alloc (.cells #[.bool false, .int .i64 0, .int .u32 0, .slice (some ⟨w1.heap.size, 0, none⟩) 8 8, .slice none 0 0, .int .u64 0, .int .i64 1] 29 (0, 0))).heap.size = w2.heap.size + 1 := by simp
  rw [hsa] at ho3 hk3
  have HO3 := Lib.hid ho3
  have HK3 := Lib.hid ((HK2.out.alloc HK2.out.size (.cells #[.bool false, .int .i64 0, .int .u32 0, .slice (some ⟨w1.heap.size, 0, none⟩) 8 8, .slice none 0 0, .int .u64 0, .int .i64 1] 29 (0, 0))).trans (hk3.mono (by have := HK2.out.size; omega)))
  have HH3 := Lib.hid ((Below.keeps hk3).blk (Blk.new w2 #[.bool false, .int .i64 0, .int .u32 0, .slice (some ⟨w1.heap.size, 0, none⟩) 8 8, .slice none 0 0, .int .u64 0, .int .i64 1] 29) (by omega))
  have HX3 : Hid (By w3 (some ⟨w1.heap.size, 0, none⟩) 8 8 (List.replicate 8 0)) := Lib.hid ((HO2.out.by.alloc _).below hk3 (fun b hb => by simp at hb; omega))
  have hs3 : w2.heap.size + 1 < w3.heap.size := (ho3.ge _ rfl).2
  clear ho3 hk3 hsa
  refine Halted.go ?_
  obtain ⟨⟨z0, z1, z2, z3, z4, z5, z6⟩, _⟩ := hd_cells HH3.out
  go_wp2_with fail
  clear z0 z1 z2 z3 z4 z5 z6
  have HH6 := HH3
  have HX6 := HX3
  have HY6 := Lib.hid HO3.out.by
  have HK6 := HK3
  have HLX : Hid (∀ b, (some (⟨w1.heap.size, 0, none⟩ : Addr)).map (·.block) = some b → b < w3.heap.size) := Lib.hid (fun b hb => by simp at hb; omega)
  have HLY : Hid (∀ b, (some (⟨w2.heap.size + 1, 0, none⟩ : Addr)).map (·.block) = some b → b < w3.heap.size) := Lib.hid (fun b hb => by simp at hb; omega)
  have hl6 : w2.heap.size < w3.heap.size := by omega
  have HW : Hid (wrOK false 0 0 (List.replicate 8 0) [] 0 1 (List.replicate (1188 + q) 0) = true) := Lib.hid (by rw [great0 false _ (by omega) (by omega)]; exact decide_eq_true (by simp; omega))
  refine (write_any false 0 0 (some ⟨w1.heap.size, 0, none⟩) 8 8 (List.replicate 8 0) none 0 0 [] 0 1 (some ⟨w2.heap.size + 1, 0, none⟩) (1188 + q) (1188 + q) (List.replicate (1188 + q) 0) w3 (fun w' h => HX6.out.below h HLX.out) (fun w' h => By.nil w') (fun w' h => HY6.out.below h HLY.out) (by omega) (by omega) (by omega) (by omega) (by omega) (by omega) (by omega)).mono ?_
  rintro e w7 ⟨a7, n7, c7, rfl, ho7, hk7⟩
  have hn7 : (n7 : Int) ≤ 1200 := by have h1 := ho7.1; have h2 := wrX_le false 0 0 (List.replicate 8 0) [] 0 1 (List.replicate (1188 + q) 0); omega
  have HE := wrE_eq false 0 0 (List.replicate 8 0) [] 0 1 (List.replicate (1188 + q) 0)
  rw [HW.out] at HE
  obtain ⟨er, her⟩ : ∃ er, wrE false 0 0 (List.replicate 8 0) [] 0 1 (List.replicate (1188 + q) 0) = er := ⟨_, rfl⟩
  rw [her] at HE ⊢
  have HER := Lib.hid her
  have HE2 := Lib.hid HE
  have HK7 := Lib.hid (HK6.out.trans (hk7.mono HK6.out.size))
  have HH7 := Lib.hid ((Below.keeps hk7).blk HH6.out (by omega))
  have HB7 := Lib.hid hk7
  clear ho7 hk7 her HE
  obtain ⟨⟨z0, z1, z2, z3, z4, z5, z6⟩, _⟩ := hd_cells HH7.out
  go_wp2_with fail
  refine (ref_any false 0 0 (some ⟨w1.heap.size, 0, none⟩) 8 8 (List.replicate 8 0) none 0 0 [] 0 1 (some ⟨w2.heap.size + 1, 0, none⟩) (1188 + q) (1188 + q) (List.replicate (1188 + q) 0) w7 (fun w' h => HX6.out.below (HB7.out.trans (h.mono HB7.out.size)) HLX.out) (fun w' h => By.nil w') (fun w' h => HY6.out.below (HB7.out.trans (h.mono HB7.out.size)) HLY.out) (by omega) (by omega) (by omega) (by omega) (by omega) (by omega) (by omega)).mono ?_
  rintro e w8 ⟨a8, n8, c8, rfl, _, hk8⟩
  rw [HER.out]
  have HK8 := Lib.hid (HK7.out.trans (hk8.mono HK7.out.size))
  have he := HE2.out
  clear hk8 z0 z1 z2 z3 z4 z5 z6
  go_wp2_with fail
  go_returns
  exact ⟨by simp, HK8.out⟩

set_option maxRecDepth 100000 in
set_option maxHeartbeats 3200000 in
theorem great_0_false_gt (w : World) (wt n : Int) (q : Nat) (hr : wt % 4 = 0) (w0 : 0 ≤ wt) (w255 : wt ≤ 255) (n0 : 0 ≤ n) (n255 : n ≤ 255) (hq : n % 5 = (q : Int)) (hq5 : q < 5) (hqI : ¬ (q : Int) - 2 ≤ 0) :
    Calls Try.prog 4 #[.int .u8 wt, .int .u8 n, .bool false] w fun e w' => e = .returned (.bool true) ∧ Below w.heap.size w w' := by
  go_enter Try.func4, Try.ntmps4
  go_wp2_with fail
  refine (known_any w).mono ?_
  rintro e w1 ⟨rfl, hk1⟩
  have HK1 := Lib.hid hk1
  clear hk1
  go_wp2_with (refine wpList_make8 _ rfl _ _ rfl 8 rfl rfl (by omega) ?_; intro w2 ho2 hk2; refine halt ?_)
  have HO2 := Lib.hid ho2
  have HK2 := Lib.hid (HK1.out.trans (hk2.mono HK1.out.size))
  have hs2 : w1.heap.size < w2.heap.size := (ho2.ge _ rfl).2
  clear ho2 hk2
  refine Halted.go ?_
  go_wp2_with (refine wpList_make8 _ rfl _ _ rfl (1188 + q) (show Value.int .i64 ((1190 : Int) + ((q : Int) - 2)) = Value.int .i64 (((1188 + q) : Nat) : Int) from by congr 1; omega) (show Value.int .i64 ((1190 : Int) + ((q : Int) - 2)) = Value.int .i64 (((1188 + q) : Nat) : Int) from by congr 1; omega) (by omega) ?_; intro w3 ho3 hk3; refine halt ?_)
  have hsa : (w2.alloc (.cells #[.bool false, .int .i64 0, .int .u32 0, .slice (some ⟨w1.heap.size, 0, none⟩) 8 8, .slice none 0 0, .int .u64 0, .int .i64 1] 29 (0, 0))).heap.size = w2.heap.size + 1 := by simp
  rw [hsa] at ho3 hk3
  have HO3 := Lib.hid ho3
  have HK3 := Lib.hid ((HK2.out.alloc HK2.out.size (.cells #[.bool false, .int .i64 0, .int .u32 0, .slice (some ⟨w1.heap.size, 0, none⟩) 8 8, .slice none 0 0, .int .u64 0, .int .i64 1] 29 (0, 0))).trans (hk3.mono (by have := HK2.out.size; omega)))
  have HH3 := Lib.hid ((Below.keeps hk3).blk (Blk.new w2 #[.bool false, .int .i64 0, .int .u32 0, .slice (some ⟨w1.heap.size, 0, none⟩) 8 8, .slice none 0 0, .int .u64 0, .int .i64 1] 29) (by omega))
  have HX3 : Hid (By w3 (some ⟨w1.heap.size, 0, none⟩) 8 8 (List.replicate 8 0)) := Lib.hid ((HO2.out.by.alloc _).below hk3 (fun b hb => by simp at hb; omega))
  have hs3 : w2.heap.size + 1 < w3.heap.size := (ho3.ge _ rfl).2
  clear ho3 hk3 hsa
  refine Halted.go ?_
  obtain ⟨⟨z0, z1, z2, z3, z4, z5, z6⟩, _⟩ := hd_cells HH3.out
  go_wp2_with fail
  clear z0 z1 z2 z3 z4 z5 z6
  have HH6 := HH3
  have HX6 := HX3
  have HY6 := Lib.hid HO3.out.by
  have HK6 := HK3
  have HLX : Hid (∀ b, (some (⟨w1.heap.size, 0, none⟩ : Addr)).map (·.block) = some b → b < w3.heap.size) := Lib.hid (fun b hb => by simp at hb; omega)
  have HLY : Hid (∀ b, (some (⟨w2.heap.size + 1, 0, none⟩ : Addr)).map (·.block) = some b → b < w3.heap.size) := Lib.hid (fun b hb => by simp at hb; omega)
  have hl6 : w2.heap.size < w3.heap.size := by omega
  have HW : Hid (wrOK false 0 0 (List.replicate 8 0) [] 0 1 (List.replicate (1188 + q) 0) = false) := Lib.hid (by rw [great0 false _ (by omega) (by omega)]; exact decide_eq_false (by simp; omega))
  refine (write_any false 0 0 (some ⟨w1.heap.size, 0, none⟩) 8 8 (List.replicate 8 0) none 0 0 [] 0 1 (some ⟨w2.heap.size + 1, 0, none⟩) (1188 + q) (1188 + q) (List.replicate (1188 + q) 0) w3 (fun w' h => HX6.out.below h HLX.out) (fun w' h => By.nil w') (fun w' h => HY6.out.below h HLY.out) (by omega) (by omega) (by omega) (by omega) (by omega) (by omega) (by omega)).mono ?_
  rintro e w7 ⟨a7, n7, c7, rfl, ho7, hk7⟩
  have hn7 : (n7 : Int) ≤ 1200 := by have h1 := ho7.1; have h2 := wrX_le false 0 0 (List.replicate 8 0) [] 0 1 (List.replicate (1188 + q) 0); omega
  have HE := wrE_eq false 0 0 (List.replicate 8 0) [] 0 1 (List.replicate (1188 + q) 0)
  rw [HW.out] at HE
  obtain ⟨er, her⟩ : ∃ er, wrE false 0 0 (List.replicate 8 0) [] 0 1 (List.replicate (1188 + q) 0) = er := ⟨_, rfl⟩
  rw [her] at HE ⊢
  have HER := Lib.hid her
  have HE2 := Lib.hid HE
  have HK7 := Lib.hid (HK6.out.trans (hk7.mono HK6.out.size))
  have HH7 := Lib.hid ((Below.keeps hk7).blk HH6.out (by omega))
  have HB7 := Lib.hid hk7
  clear ho7 hk7 her HE
  obtain ⟨⟨z0, z1, z2, z3, z4, z5, z6⟩, _⟩ := hd_cells HH7.out
  go_wp2_with fail
  refine (ref_any false 0 0 (some ⟨w1.heap.size, 0, none⟩) 8 8 (List.replicate 8 0) none 0 0 [] 0 1 (some ⟨w2.heap.size + 1, 0, none⟩) (1188 + q) (1188 + q) (List.replicate (1188 + q) 0) w7 (fun w' h => HX6.out.below (HB7.out.trans (h.mono HB7.out.size)) HLX.out) (fun w' h => By.nil w') (fun w' h => HY6.out.below (HB7.out.trans (h.mono HB7.out.size)) HLY.out) (by omega) (by omega) (by omega) (by omega) (by omega) (by omega) (by omega)).mono ?_
  rintro e w8 ⟨a8, n8, c8, rfl, _, hk8⟩
  rw [HER.out]
  have HK8 := Lib.hid (HK7.out.trans (hk8.mono HK7.out.size))
  have he := HE2.out
  clear hk8 z0 z1 z2 z3 z4 z5 z6
  go_wp2_with fail
  go_returns
  exact ⟨by simp, HK8.out⟩

set_option maxRecDepth 100000 in
set_option maxHeartbeats 3200000 in
theorem great_0_true_le (w : World) (wt n : Int) (q : Nat) (hr : wt % 4 = 0) (w0 : 0 ≤ wt) (w255 : wt ≤ 255) (n0 : 0 ≤ n) (n255 : n ≤ 255) (hq : n % 5 = (q : Int)) (hq5 : q < 5) (hqI : (q : Int) - 2 ≤ 0) :
    Calls Try.prog 4 #[.int .u8 wt, .int .u8 n, .bool true] w fun e w' => e = .returned (.bool true) ∧ Below w.heap.size w w' := by
  go_enter Try.func4, Try.ntmps4
  go_wp2_with fail
  refine (known_any w).mono ?_
  rintro e w1 ⟨rfl, hk1⟩
  have HK1 := Lib.hid hk1
  clear hk1
  go_wp2_with (refine wpList_make8 _ rfl _ _ rfl 8 rfl rfl (by omega) ?_; intro w2 ho2 hk2; refine halt ?_)
  have HO2 := Lib.hid ho2
  have HK2 := Lib.hid (HK1.out.trans (hk2.mono HK1.out.size))
  have hs2 : w1.heap.size < w2.heap.size := (ho2.ge _ rfl).2
  clear ho2 hk2
  refine Halted.go ?_
  go_wp2_with (refine wpList_make8 _ rfl _ _ rfl (1180 + q) (show Value.int .i64 ((1182 : Int) + ((q : Int) - 2)) = Value.int .i64 (((1180 + q) : Nat) : Int) from by congr 1; omega) (show Value.int .i64 ((1182 : Int) + ((q : Int) - 2)) = Value.int .i64 (((1180 + q) : Nat) : Int) from by congr 1; omega) (by omega) ?_; intro w3 ho3 hk3; refine halt ?_)
  have hsa : (w2.alloc (.cells #[.bool true, .int .i64 0, .int .u32 0, .slice (some ⟨w1.heap.size, 0, none⟩) 8 8, .slice none 0 0, .int .u64 0, .int .i64 1] 29 (0, 0))).heap.size = w2.heap.size + 1 := by simp
  rw [hsa] at ho3 hk3
  have HO3 := Lib.hid ho3
  have HK3 := Lib.hid ((HK2.out.alloc HK2.out.size (.cells #[.bool true, .int .i64 0, .int .u32 0, .slice (some ⟨w1.heap.size, 0, none⟩) 8 8, .slice none 0 0, .int .u64 0, .int .i64 1] 29 (0, 0))).trans (hk3.mono (by have := HK2.out.size; omega)))
  have HH3 := Lib.hid ((Below.keeps hk3).blk (Blk.new w2 #[.bool true, .int .i64 0, .int .u32 0, .slice (some ⟨w1.heap.size, 0, none⟩) 8 8, .slice none 0 0, .int .u64 0, .int .i64 1] 29) (by omega))
  have HX3 : Hid (By w3 (some ⟨w1.heap.size, 0, none⟩) 8 8 (List.replicate 8 0)) := Lib.hid ((HO2.out.by.alloc _).below hk3 (fun b hb => by simp at hb; omega))
  have hs3 : w2.heap.size + 1 < w3.heap.size := (ho3.ge _ rfl).2
  clear ho3 hk3 hsa
  refine Halted.go ?_
  obtain ⟨⟨z0, z1, z2, z3, z4, z5, z6⟩, _⟩ := hd_cells HH3.out
  go_wp2_with fail
  clear z0 z1 z2 z3 z4 z5 z6
  have HH6 := HH3
  have HX6 := HX3
  have HY6 := Lib.hid HO3.out.by
  have HK6 := HK3
  have HLX : Hid (∀ b, (some (⟨w1.heap.size, 0, none⟩ : Addr)).map (·.block) = some b → b < w3.heap.size) := Lib.hid (fun b hb => by simp at hb; omega)
  have HLY : Hid (∀ b, (some (⟨w2.heap.size + 1, 0, none⟩ : Addr)).map (·.block) = some b → b < w3.heap.size) := Lib.hid (fun b hb => by simp at hb; omega)
  have hl6 : w2.heap.size < w3.heap.size := by omega
  have HW : Hid (wrOK true 0 0 (List.replicate 8 0) [] 0 1 (List.replicate (1180 + q) 0) = true) := Lib.hid (by rw [great0 true _ (by omega) (by omega)]; exact decide_eq_true (by simp; omega))
  refine (write_any true 0 0 (some ⟨w1.heap.size, 0, none⟩) 8 8 (List.replicate 8 0) none 0 0 [] 0 1 (some ⟨w2.heap.size + 1, 0, none⟩) (1180 + q) (1180 + q) (List.replicate (1180 + q) 0) w3 (fun w' h => HX6.out.below h HLX.out) (fun w' h => By.nil w') (fun w' h => HY6.out.below h HLY.out) (by omega) (by omega) (by omega) (by omega) (by omega) (by omega) (by omega)).mono ?_
  rintro e w7 ⟨a7, n7, c7, rfl, ho7, hk7⟩
  have hn7 : (n7 : Int) ≤ 1200 := by have h1 := ho7.1; have h2 := wrX_le true 0 0 (List.replicate 8 0) [] 0 1 (List.replicate (1180 + q) 0); omega
  have HE := wrE_eq true 0 0 (List.replicate 8 0) [] 0 1 (List.replicate (1180 + q) 0)
  rw [HW.out] at HE
  obtain ⟨er, her⟩ : ∃ er, wrE true 0 0 (List.replicate 8 0) [] 0 1 (List.replicate (1180 + q) 0) = er := ⟨_, rfl⟩
  rw [her] at HE ⊢
  have HER := Lib.hid her
  have HE2 := Lib.hid HE
  have HK7 := Lib.hid (HK6.out.trans (hk7.mono HK6.out.size))
  have HH7 := Lib.hid ((Below.keeps hk7).blk HH6.out (by omega))
  have HB7 := Lib.hid hk7
  clear ho7 hk7 her HE
  obtain ⟨⟨z0, z1, z2, z3, z4, z5, z6⟩, _⟩ := hd_cells HH7.out
  go_wp2_with fail
  refine (ref_any true 0 0 (some ⟨w1.heap.size, 0, none⟩) 8 8 (List.replicate 8 0) none 0 0 [] 0 1 (some ⟨w2.heap.size + 1, 0, none⟩) (1180 + q) (1180 + q) (List.replicate (1180 + q) 0) w7 (fun w' h => HX6.out.below (HB7.out.trans (h.mono HB7.out.size)) HLX.out) (fun w' h => By.nil w') (fun w' h => HY6.out.below (HB7.out.trans (h.mono HB7.out.size)) HLY.out) (by omega) (by omega) (by omega) (by omega) (by omega) (by omega) (by omega)).mono ?_
  rintro e w8 ⟨a8, n8, c8, rfl, _, hk8⟩
  rw [HER.out]
  have HK8 := Lib.hid (HK7.out.trans (hk8.mono HK7.out.size))
  have he := HE2.out
  clear hk8 z0 z1 z2 z3 z4 z5 z6
  go_wp2_with fail
  go_returns
  exact ⟨by simp, HK8.out⟩

set_option maxRecDepth 100000 in
set_option maxHeartbeats 3200000 in
theorem great_0_true_gt (w : World) (wt n : Int) (q : Nat) (hr : wt % 4 = 0) (w0 : 0 ≤ wt) (w255 : wt ≤ 255) (n0 : 0 ≤ n) (n255 : n ≤ 255) (hq : n % 5 = (q : Int)) (hq5 : q < 5) (hqI : ¬ (q : Int) - 2 ≤ 0) :
    Calls Try.prog 4 #[.int .u8 wt, .int .u8 n, .bool true] w fun e w' => e = .returned (.bool true) ∧ Below w.heap.size w w' := by
  go_enter Try.func4, Try.ntmps4
  go_wp2_with fail
  refine (known_any w).mono ?_
  rintro e w1 ⟨rfl, hk1⟩
  have HK1 := Lib.hid hk1
  clear hk1
  go_wp2_with (refine wpList_make8 _ rfl _ _ rfl 8 rfl rfl (by omega) ?_; intro w2 ho2 hk2; refine halt ?_)
  have HO2 := Lib.hid ho2
  have HK2 := Lib.hid (HK1.out.trans (hk2.mono HK1.out.size))
  have hs2 : w1.heap.size < w2.heap.size := (ho2.ge _ rfl).2
  clear ho2 hk2
  refine Halted.go ?_
  go_wp2_with (refine wpList_make8 _ rfl _ _ rfl (1180 + q) (show Value.int .i64 ((1182 : Int) + ((q : Int) - 2)) = Value.int .i64 (((1180 + q) : Nat) : Int) from by congr 1; omega) (show Value.int .i64 ((1182 : Int) + ((q : Int) - 2)) = Value.int .i64 (((1180 + q) : Nat) : Int) from by congr 1; omega) (by omega) ?_; intro w3 ho3 hk3; refine halt ?_)
  have hsa : (w2.alloc (.cells #[.bool true, .int .i64 0, .int .u32 0, .slice (some ⟨w1.heap.size, 0, none⟩) 8 8, .slice none 0 0, .int .u64 0, .int .i64 1] 29 (0, 0))).heap.size = w2.heap.size + 1 := by simp
  rw [hsa] at ho3 hk3
  have HO3 := Lib.hid ho3
  have HK3 := Lib.hid ((HK2.out.alloc HK2.out.size (.cells #[.bool true, .int .i64 0, .int .u32 0, .slice (some ⟨w1.heap.size, 0, none⟩) 8 8, .slice none 0 0, .int .u64 0, .int .i64 1] 29 (0, 0))).trans (hk3.mono (by have := HK2.out.size; omega)))
  have HH3 := Lib.hid ((Below.keeps hk3).blk (Blk.new w2 #[.bool true, .int .i64 0, .int .u32 0, .slice (some ⟨w1.heap.size, 0, none⟩) 8 8, .slice none 0 0, .int .u64 0, .int .i64 1] 29) (by omega))
  have HX3 : Hid (By w3 (some ⟨w1.heap.size, 0, none⟩) 8 8 (List.replicate 8 0)) := Lib.hid ((HO2.out.by.alloc _).below hk3 (fun b hb => by simp at hb; omega))
  have hs3 : w2.heap.size + 1 < w3.heap.size := (ho3.ge _ rfl).2
  clear ho3 hk3 hsa
  refine Halted.go ?_
  obtain ⟨⟨z0, z1, z2, z3, z4, z5, z6⟩, _⟩ := hd_cells HH3.out
  go_wp2_with fail
  clear z0 z1 z2 z3 z4 z5 z6
  have HH6 := HH3
  have HX6 := HX3
  have HY6 := Lib.hid HO3.out.by
  have HK6 := HK3
  have HLX : Hid (∀ b, (some (⟨w1.heap.size, 0, none⟩ : Addr)).map (·.block) = some b → b < w3.heap.size) := Lib.hid (fun b hb => by simp at hb; omega)
  have HLY : Hid (∀ b, (some (⟨w2.heap.size + 1, 0, none⟩ : Addr)).map (·.block) = some b → b < w3.heap.size) := Lib.hid (fun b hb => by simp at hb; omega)
  have hl6 : w2.heap.size < w3.heap.size := by omega
  have HW : Hid (wrOK true 0 0 (List.replicate 8 0) [] 0 1 (List.replicate (1180 + q) 0) = false) := Lib.hid (by rw [great0 true _ (by omega) (by omega)]; exact decide_eq_false (by simp; omega))
  refine (write_any true 0 0 (some ⟨w1.heap.size, 0, none⟩) 8 8 (List.replicate 8 0) none 0 0 [] 0 1 (some ⟨w2.heap.size + 1, 0, none⟩) (1180 + q) (1180 + q) (List.replicate (1180 + q) 0) w3 (fun w' h => HX6.out.below h HLX.out) (fun w' h => By.nil w') (fun w' h => HY6.out.below h HLY.out) (by omega) (by omega) (by omega) (by omega) (by omega) (by omega) (by omega)).mono ?_
  rintro e w7 ⟨a7, n7, c7, rfl, ho7, hk7⟩
  have hn7 : (n7 : Int) ≤ 1200 := by have h1 := ho7.1; have h2 := wrX_le true 0 0 (List.replicate 8 0) [] 0 1 (List.replicate (1180 + q) 0); omega
  have HE := wrE_eq true 0 0 (List.replicate 8 0) [] 0 1 (List.replicate (1180 + q) 0)
  rw [HW.out] at HE
  obtain ⟨er, her⟩ : ∃ er, wrE true 0 0 (List.replicate 8 0) [] 0 1 (List.replicate (1180 + q) 0) = er := ⟨_, rfl⟩
  rw [her] at HE ⊢
  have HER := Lib.hid her
  have HE2 := Lib.hid HE
  have HK7 := Lib.hid (HK6.out.trans (hk7.mono HK6.out.size))
  have HH7 := Lib.hid ((Below.keeps hk7).blk HH6.out (by omega))
  have HB7 := Lib.hid hk7
  clear ho7 hk7 her HE
  obtain ⟨⟨z0, z1, z2, z3, z4, z5, z6⟩, _⟩ := hd_cells HH7.out
  go_wp2_with fail
  refine (ref_any true 0 0 (some ⟨w1.heap.size, 0, none⟩) 8 8 (List.replicate 8 0) none 0 0 [] 0 1 (some ⟨w2.heap.size + 1, 0, none⟩) (1180 + q) (1180 + q) (List.replicate (1180 + q) 0) w7 (fun w' h => HX6.out.below (HB7.out.trans (h.mono HB7.out.size)) HLX.out) (fun w' h => By.nil w') (fun w' h => HY6.out.below (HB7.out.trans (h.mono HB7.out.size)) HLY.out) (by omega) (by omega) (by omega) (by omega) (by omega) (by omega) (by omega)).mono ?_
  rintro e w8 ⟨a8, n8, c8, rfl, _, hk8⟩
  rw [HER.out]
  have HK8 := Lib.hid (HK7.out.trans (hk8.mono HK7.out.size))
  have he := HE2.out
  clear hk8 z0 z1 z2 z3 z4 z5 z6
  go_wp2_with fail
  go_returns
  exact ⟨by simp, HK8.out⟩

set_option maxRecDepth 100000 in
set_option maxHeartbeats 3200000 in
theorem great_1_false_le (w : World) (wt n : Int) (q : Nat) (hr : wt % 4 = 1) (w0 : 0 ≤ wt) (w255 : wt ≤ 255) (n0 : 0 ≤ n) (n255 : n ≤ 255) (hq : n % 5 = (q : Int)) (hq5 : q < 5) (hqI : (q : Int) - 2 ≤ 0) :
    Calls Try.prog 4 #[.int .u8 wt, .int .u8 n, .bool false] w fun e w' => e = .returned (.bool true) ∧ Below w.heap.size w w' := by
  go_enter Try.func4, Try.ntmps4
  go_wp2_with fail
  refine (known_any w).mono ?_
  rintro e w1 ⟨rfl, hk1⟩
  have HK1 := Lib.hid hk1
  clear hk1
  go_wp2_with (refine wpList_make8 _ rfl _ _ rfl 8 rfl rfl (by omega) ?_; intro w2 ho2 hk2; refine halt ?_)
  have HO2 := Lib.hid ho2
  have HK2 := Lib.hid (HK1.out.trans (hk2.mono HK1.out.size))
  have hs2 : w1.heap.size < w2.heap.size := (ho2.ge _ rfl).2
  clear ho2 hk2
  refine Halted.go ?_
  go_wp2_with (refine wpList_make8 _ rfl _ _ rfl (18 + q) (show Value.int .i64 ((20 : Int) + ((q : Int) - 2)) = Value.int .i64 (((18 + q) : Nat) : Int) from by congr 1; omega) (show Value.int .i64 ((20 : Int) + ((q : Int) - 2)) = Value.int .i64 (((18 + q) : Nat) : Int) from by congr 1; omega) (by omega) ?_; intro w3 ho3 hk3; refine halt ?_)
  have hsa : (w2.alloc (.cells #[.bool false, .int .i64 0, .int .u32 0, .slice (some ⟨w1.heap.size, 0, none⟩) 8 8, .slice none 0 0, .int .u64 0, .int .i64 1] 29 (0, 0))).heap.size = w2.heap.size + 1 := by simp
  rw [hsa] at ho3 hk3
  have HO3 := Lib.hid ho3
  have HK3 := Lib.hid ((HK2.out.alloc HK2.out.size (.cells #[.bool false, .int .i64 0, .int .u32 0, .slice (some ⟨w1.heap.size, 0, none⟩) 8 8, .slice none 0 0, .int .u64 0, .int .i64 1] 29 (0, 0))).trans (hk3.mono (by have := HK2.out.size; omega)))
  have HH3 := Lib.hid ((Below.keeps hk3).blk (Blk.new w2 #[.bool false, .int .i64 0, .int .u32 0, .slice (some ⟨w1.heap.size, 0, none⟩) 8 8, .slice none 0 0, .int .u64 0, .int .i64 1] 29) (by omega))
  have HX3 : Hid (By w3 (some ⟨w1.heap.size, 0, none⟩) 8 8 (List.replicate 8 0)) := Lib.hid ((HO2.out.by.alloc _).below hk3 (fun b hb => by simp at hb; omega))
  have hs3 : w2.heap.size + 1 < w3.heap.size := (ho3.ge _ rfl).2
  clear ho3 hk3 hsa
  refine Halted.go ?_
  obtain ⟨⟨z0, z1, z2, z3, z4, z5, z6⟩, y0, y1, y2, y3, y4, y5, y6⟩ := hd_cells HH3.out
  go_wp2_with fail
  clear z0 z1 z2 z3 z4 z5 z6 y0 y1 y2 y3 y4 y5 y6
  refine calls_named ?_
  intro w6 hw6
  have HH6 : Hid (Blk w6 w2.heap.size #[.bool false, .int .i64 0, .int .u32 0, .slice (some ⟨w2.heap.size + 1, 0, none⟩) (18 + q) (18 + q), .slice none 0 0, .int .u64 0, .int .i64 1] 29) := Lib.hid (by rw [← hw6]; exact HH3.out.set 3 _)
  have HX6 : Hid (By w6 (some ⟨w2.heap.size + 1, 0, none⟩) (18 + q) (18 + q) (List.replicate (18 + q) 0)) := Lib.hid (by rw [← hw6]; exact HO3.out.by.keep ((Keeps.refl (fun k => k = w2.heap.size) w3).put 3 _) (fun b hb e => by simp at hb; omega))
  have hs6 : w6.heap.size = w3.heap.size := by rw [← hw6]; simp
  have HK6 : Hid (Below w.heap.size w w6) := Lib.hid (by rw [← hw6]; exact HK3.out.setCell (p := ⟨w2.heap.size, 3, none⟩) (show w.heap.size ≤ w2.heap.size by have := HK2.out.size; omega) _)
  have HY6 : Hid (By w6 none 0 0 []) := Lib.hid (By.nil _)
  have HLX : Hid (∀ b, (some (⟨w2.heap.size + 1, 0, none⟩ : Addr)).map (·.block) = some b → b < w6.heap.size) := Lib.hid (fun b hb => by simp at hb; omega)
  have HLY : Hid (∀ b, (none : Option Addr).map (·.block) = some b → b < w6.heap.size) := Lib.hid (fun b hb => by cases hb)
  have hl6 : w2.heap.size < w6.heap.size := by omega
  clear hw6
  have HW : Hid (wrOK false 0 0 (List.replicate (18 + q) 0) [] 0 1 [] = false) := Lib.hid (by rw [great1 false _ (by omega) (by omega)]; rw [decide_eq_true (by omega)]; rfl)
  refine (write_any false 0 0 (some ⟨w2.heap.size + 1, 0, none⟩) (18 + q) (18 + q) (List.replicate (18 + q) 0) none 0 0 [] 0 1 none 0 0 [] w6 (fun w' h => HX6.out.below h HLX.out) (fun w' h => By.nil w') (fun w' h => HY6.out.below h HLY.out) (by omega) (by omega) (by omega) (by omega) (by omega) (by omega) (by omega)).mono ?_
  rintro e w7 ⟨a7, n7, c7, rfl, ho7, hk7⟩
  have hn7 : (n7 : Int) ≤ 1200 := by have h1 := ho7.1; have h2 := wrX_le false 0 0 (List.replicate (18 + q) 0) [] 0 1 []; omega
  have HE := wrE_eq false 0 0 (List.replicate (18 + q) 0) [] 0 1 []
  rw [HW.out] at HE
  obtain ⟨er, her⟩ : ∃ er, wrE false 0 0 (List.replicate (18 + q) 0) [] 0 1 [] = er := ⟨_, rfl⟩
  rw [her] at HE ⊢
  have HER := Lib.hid her
  have HE2 := Lib.hid HE
  have HK7 := Lib.hid (HK6.out.trans (hk7.mono HK6.out.size))
  have HH7 := Lib.hid ((Below.keeps hk7).blk HH6.out (by omega))
  have HB7 := Lib.hid hk7
  clear ho7 hk7 her HE
  obtain ⟨⟨z0, z1, z2, z3, z4, z5, z6⟩, _⟩ := hd_cells HH7.out
  go_wp2_with fail
  refine (ref_any false 0 0 (some ⟨w2.heap.size + 1, 0, none⟩) (18 + q) (18 + q) (List.replicate (18 + q) 0) none 0 0 [] 0 1 none 0 0 [] w7 (fun w' h => HX6.out.below (HB7.out.trans (h.mono HB7.out.size)) HLX.out) (fun w' h => By.nil w') (fun w' h => HY6.out.below (HB7.out.trans (h.mono HB7.out.size)) HLY.out) (by omega) (by omega) (by omega) (by omega) (by omega) (by omega) (by omega)).mono ?_
  rintro e w8 ⟨a8, n8, c8, rfl, _, hk8⟩
  rw [HER.out]
  have HK8 := Lib.hid (HK7.out.trans (hk8.mono HK7.out.size))
  have he := HE2.out
  clear hk8 z0 z1 z2 z3 z4 z5 z6
  go_wp2_with fail
  go_returns
  exact ⟨by simp, HK8.out⟩

set_option maxRecDepth 100000 in
set_option maxHeartbeats 3200000 in
theorem great_1_false_gt (w : World) (wt n : Int) (q : Nat) (hr : wt % 4 = 1) (w0 : 0 ≤ wt) (w255 : wt ≤ 255) (n0 : 0 ≤ n) (n255 : n ≤ 255) (hq : n % 5 = (q : Int)) (hq5 : q < 5) (hqI : ¬ (q : Int) - 2 ≤ 0) :
    Calls Try.prog 4 #[.int .u8 wt, .int .u8 n, .bool false] w fun e w' => e = .returned (.bool true) ∧ Below w.heap.size w w' := by
  go_enter Try.func4, Try.ntmps4
  go_wp2_with fail
  refine (known_any w).mono ?_
  rintro e w1 ⟨rfl, hk1⟩
  have HK1 := Lib.hid hk1
  clear hk1
  go_wp2_with (refine wpList_make8 _ rfl _ _ rfl 8 rfl rfl (by omega) ?_; intro w2 ho2 hk2; refine halt ?_)
  have HO2 := Lib.hid ho2
  have HK2 := Lib.hid (HK1.out.trans (hk2.mono HK1.out.size))
  have hs2 : w1.heap.size < w2.heap.size := (ho2.ge _ rfl).2
  clear ho2 hk2
  refine Halted.go ?_
  go_wp2_with (refine wpList_make8 _ rfl _ _ rfl (18 + q) (show Value.int .i64 ((20 : Int) + ((q : Int) - 2)) = Value.int .i64 (((18 + q) : Nat) : Int) from by congr 1; omega) (show Value.int .i64 ((20 : Int) + ((q : Int) - 2)) = Value.int .i64 (((18 + q) : Nat) : Int) from by congr 1; omega) (by omega) ?_; intro w3 ho3 hk3; refine halt ?_)
  have hsa : (w2.alloc (.cells #[.bool false, .int .i64 0, .int .u32 0, .slice (some ⟨w1.heap.size, 0, none⟩) 8 8, .slice none 0 0, .int .u64 0, .int .i64 1] 29 (0, 0))).heap.size = w2.heap.size + 1 := by simp
  rw [hsa] at ho3 hk3
  have HO3 := Lib.hid ho3
  have HK3 := Lib.hid ((HK2.out.alloc HK2.out.size (.cells #[.bool false, .int .i64 0, .int .u32 0, .slice (some ⟨w1.heap.size, 0, none⟩) 8 8, .slice none 0 0, .int .u64 0, .int .i64 1] 29 (0, 0))).trans (hk3.mono (by have := HK2.out.size; omega)))
  have HH3 := Lib.hid ((Below.keeps hk3).blk (Blk.new w2 #[.bool false, .int .i64 0, .int .u32 0, .slice (some ⟨w1.heap.size, 0, none⟩) 8 8, .slice none 0 0, .int .u64 0, .int .i64 1] 29) (by omega))
  have HX3 : Hid (By w3 (some ⟨w1.heap.size, 0, none⟩) 8 8 (List.replicate 8 0)) := Lib.hid ((HO2.out.by.alloc _).below hk3 (fun b hb => by simp at hb; omega))
  have hs3 : w2.heap.size + 1 < w3.heap.size := (ho3.ge _ rfl).2
  clear ho3 hk3 hsa
  refine Halted.go ?_
  obtain ⟨⟨z0, z1, z2, z3, z4, z5, z6⟩, y0, y1, y2, y3, y4, y5, y6⟩ := hd_cells HH3.out
  go_wp2_with fail
  clear z0 z1 z2 z3 z4 z5 z6 y0 y1 y2 y3 y4 y5 y6
  refine calls_named ?_
  intro w6 hw6
  have HH6 : Hid (Blk w6 w2.heap.size #[.bool false, .int .i64 0, .int .u32 0, .slice (some ⟨w2.heap.size + 1, 0, none⟩) (18 + q) (18 + q), .slice none 0 0, .int .u64 0, .int .i64 1] 29) := Lib.hid (by rw [← hw6]; exact HH3.out.set 3 _)
  have HX6 : Hid (By w6 (some ⟨w2.heap.size + 1, 0, none⟩) (18 + q) (18 + q) (List.replicate (18 + q) 0)) := Lib.hid (by rw [← hw6]; exact HO3.out.by.keep ((Keeps.refl (fun k => k = w2.heap.size) w3).put 3 _) (fun b hb e => by simp at hb; omega))
  have hs6 : w6.heap.size = w3.heap.size := by rw [← hw6]; simp
  have HK6 : Hid (Below w.heap.size w w6) := Lib.hid (by rw [← hw6]; exact HK3.out.setCell (p := ⟨w2.heap.size, 3, none⟩) (show w.heap.size ≤ w2.heap.size by have := HK2.out.size; omega) _)
  have HY6 : Hid (By w6 none 0 0 []) := Lib.hid (By.nil _)
  have HLX : Hid (∀ b, (some (⟨w2.heap.size + 1, 0, none⟩ : Addr)).map (·.block) = some b → b < w6.heap.size) := Lib.hid (fun b hb => by simp at hb; omega)
  have HLY : Hid (∀ b, (none : Option Addr).map (·.block) = some b → b < w6.heap.size) := Lib.hid (fun b hb => by cases hb)
  have hl6 : w2.heap.size < w6.heap.size := by omega
  clear hw6
  have HW : Hid (wrOK false 0 0 (List.replicate (18 + q) 0) [] 0 1 [] = false) := Lib.hid (by rw [great1 false _ (by omega) (by omega)]; rw [decide_eq_false (by omega)]; rfl)
  refine (write_any false 0 0 (some ⟨w2.heap.size + 1, 0, none⟩) (18 + q) (18 + q) (List.replicate (18 + q) 0) none 0 0 [] 0 1 none 0 0 [] w6 (fun w' h => HX6.out.below h HLX.out) (fun w' h => By.nil w') (fun w' h => HY6.out.below h HLY.out) (by omega) (by omega) (by omega) (by omega) (by omega) (by omega) (by omega)).mono ?_
  rintro e w7 ⟨a7, n7, c7, rfl, ho7, hk7⟩
  have hn7 : (n7 : Int) ≤ 1200 := by have h1 := ho7.1; have h2 := wrX_le false 0 0 (List.replicate (18 + q) 0) [] 0 1 []; omega
  have HE := wrE_eq false 0 0 (List.replicate (18 + q) 0) [] 0 1 []
  rw [HW.out] at HE
  obtain ⟨er, her⟩ : ∃ er, wrE false 0 0 (List.replicate (18 + q) 0) [] 0 1 [] = er := ⟨_, rfl⟩
  rw [her] at HE ⊢
  have HER := Lib.hid her
  have HE2 := Lib.hid HE
  have HK7 := Lib.hid (HK6.out.trans (hk7.mono HK6.out.size))
  have HH7 := Lib.hid ((Below.keeps hk7).blk HH6.out (by omega))
  have HB7 := Lib.hid hk7
  clear ho7 hk7 her HE
  obtain ⟨⟨z0, z1, z2, z3, z4, z5, z6⟩, _⟩ := hd_cells HH7.out
  go_wp2_with fail
  refine (ref_any false 0 0 (some ⟨w2.heap.size + 1, 0, none⟩) (18 + q) (18 + q) (List.replicate (18 + q) 0) none 0 0 [] 0 1 none 0 0 [] w7 (fun w' h => HX6.out.below (HB7.out.trans (h.mono HB7.out.size)) HLX.out) (fun w' h => By.nil w') (fun w' h => HY6.out.below (HB7.out.trans (h.mono HB7.out.size)) HLY.out) (by omega) (by omega) (by omega) (by omega) (by omega) (by omega) (by omega)).mono ?_
  rintro e w8 ⟨a8, n8, c8, rfl, _, hk8⟩
  rw [HER.out]
  have HK8 := Lib.hid (HK7.out.trans (hk8.mono HK7.out.size))
  have he := HE2.out
  clear hk8 z0 z1 z2 z3 z4 z5 z6
  go_wp2_with fail
  go_returns
  exact ⟨by simp, HK8.out⟩

set_option maxRecDepth 100000 in
set_option maxHeartbeats 3200000 in
theorem great_1_true_le (w : World) (wt n : Int) (q : Nat) (hr : wt % 4 = 1) (w0 : 0 ≤ wt) (w255 : wt ≤ 255) (n0 : 0 ≤ n) (n255 : n ≤ 255) (hq : n % 5 = (q : Int)) (hq5 : q < 5) (hqI : (q : Int) - 2 ≤ 0) :
    Calls Try.prog 4 #[.int .u8 wt, .int .u8 n, .bool true] w fun e w' => e = .returned (.bool true) ∧ Below w.heap.size w w' := by
  go_enter Try.func4, Try.ntmps4
  go_wp2_with fail
  refine (known_any w).mono ?_
  rintro e w1 ⟨rfl, hk1⟩
  have HK1 := Lib.hid hk1
  clear hk1
  go_wp2_with (refine wpList_make8 _ rfl _ _ rfl 8 rfl rfl (by omega) ?_; intro w2 ho2 hk2; refine halt ?_)
  have HO2 := Lib.hid ho2
  have HK2 := Lib.hid (HK1.out.trans (hk2.mono HK1.out.size))
  have hs2 : w1.heap.size < w2.heap.size := (ho2.ge _ rfl).2
  clear ho2 hk2
  refine Halted.go ?_
  go_wp2_with (refine wpList_make8 _ rfl _ _ rfl (18 + q) (show Value.int .i64 ((20 : Int) + ((q : Int) - 2)) = Value.int .i64 (((18 + q) : Nat) : Int) from by congr 1; omega) (show Value.int .i64 ((20 : Int) + ((q : Int) - 2)) = Value.int .i64 (((18 + q) : Nat) : Int) from by congr 1; omega) (by omega) ?_; intro w3 ho3 hk3; refine halt ?_)
  have hsa : (w2.alloc (.cells #[.bool true, .int .i64 0, .int .u32 0, .slice (some ⟨w1.heap.size, 0, none⟩) 8 8, .slice none 0 0, .int .u64 0, .int .i64 1] 29 (0, 0))).heap.size = w2.heap.size + 1 := by simp
  rw [hsa] at ho3 hk3
  have HO3 := Lib.hid ho3
  have HK3 := Lib.hid ((HK2.out.alloc HK2.out.size (.cells #[.bool true, .int .i64 0, .int .u32 0, .slice (some ⟨w1.heap.size, 0, none⟩) 8 8, .slice none 0 0, .int .u64 0, .int .i64 1] 29 (0, 0))).trans (hk3.mono (by have := HK2.out.size; omega)))
  have HH3 := Lib.hid ((Below.keeps hk3).blk (Blk.new w2 #[.bool true, .int .i64 0, .int .u32 0, .slice (some ⟨w1.heap.size, 0, none⟩) 8 8, .slice none 0 0, .int .u64 0, .int .i64 1] 29) (by omega))
  have HX3 : Hid (By w3 (some ⟨w1.heap.size, 0, none⟩) 8 8 (List.replicate 8 0)) := Lib.hid ((HO2.out.by.alloc _).below hk3 (fun b hb => by simp at hb; omega))
  have hs3 : w2.heap.size + 1 < w3.heap.size := (ho3.ge _ rfl).2
  clear ho3 hk3 hsa
  refine Halted.go ?_
  obtain ⟨⟨z0, z1, z2, z3, z4, z5, z6⟩, y0, y1, y2, y3, y4, y5, y6⟩ := hd_cells HH3.out
  go_wp2_with fail
  clear z0 z1 z2 z3 z4 z5 z6 y0 y1 y2 y3 y4 y5 y6
  refine calls_named ?_
  intro w6 hw6
  have HH6 : Hid (Blk w6 w2.heap.size #[.bool true, .int .i64 0, .int .u32 0, .slice (some ⟨w2.heap.size + 1, 0, none⟩) (18 + q) (18 + q), .slice none 0 0, .int .u64 0, .int .i64 1] 29) := Lib.hid (by rw [← hw6]; exact HH3.out.set 3 _)
  have HX6 : Hid (By w6 (some ⟨w2.heap.size + 1, 0, none⟩) (18 + q) (18 + q) (List.replicate (18 + q) 0)) := Lib.hid (by rw [← hw6]; exact HO3.out.by.keep ((Keeps.refl (fun k => k = w2.heap.size) w3).put 3 _) (fun b hb e => by simp at hb; omega))
  have hs6 : w6.heap.size = w3.heap.size := by rw [← hw6]; simp
  have HK6 : Hid (Below w.heap.size w w6) := Lib.hid (by rw [← hw6]; exact HK3.out.setCell (p := ⟨w2.heap.size, 3, none⟩) (show w.heap.size ≤ w2.heap.size by have := HK2.out.size; omega) _)
  have HY6 : Hid (By w6 none 0 0 []) := Lib.hid (By.nil _)
  have HLX : Hid (∀ b, (some (⟨w2.heap.size + 1, 0, none⟩ : Addr)).map (·.block) = some b → b < w6.heap.size) := Lib.hid (fun b hb => by simp at hb; omega)
  have HLY : Hid (∀ b, (none : Option Addr).map (·.block) = some b → b < w6.heap.size) := Lib.hid (fun b hb => by cases hb)
  have hl6 : w2.heap.size < w6.heap.size := by omega
  clear hw6
  have HW : Hid (wrOK true 0 0 (List.replicate (18 + q) 0) [] 0 1 [] = true) := Lib.hid (by rw [great1 true _ (by omega) (by omega)]; rw [decide_eq_true (by omega)]; rfl)
  refine (write_any true 0 0 (some ⟨w2.heap.size + 1, 0, none⟩) (18 + q) (18 + q) (List.replicate (18 + q) 0) none 0 0 [] 0 1 none 0 0 [] w6 (fun w' h => HX6.out.below h HLX.out) (fun w' h => By.nil w') (fun w' h => HY6.out.below h HLY.out) (by omega) (by omega) (by omega) (by omega) (by omega) (by omega) (by omega)).mono ?_
  rintro e w7 ⟨a7, n7, c7, rfl, ho7, hk7⟩
  have hn7 : (n7 : Int) ≤ 1200 := by have h1 := ho7.1; have h2 := wrX_le true 0 0 (List.replicate (18 + q) 0) [] 0 1 []; omega
  have HE := wrE_eq true 0 0 (List.replicate (18 + q) 0) [] 0 1 []
  rw [HW.out] at HE
  obtain ⟨er, her⟩ : ∃ er, wrE true 0 0 (List.replicate (18 + q) 0) [] 0 1 [] = er := ⟨_, rfl⟩
  rw [her] at HE ⊢
  have HER := Lib.hid her
  have HE2 := Lib.hid HE
  have HK7 := Lib.hid (HK6.out.trans (hk7.mono HK6.out.size))
  have HH7 := Lib.hid ((Below.keeps hk7).blk HH6.out (by omega))
  have HB7 := Lib.hid hk7
  clear ho7 hk7 her HE
  obtain ⟨⟨z0, z1, z2, z3, z4, z5, z6⟩, _⟩ := hd_cells HH7.out
  go_wp2_with fail
  refine (ref_any true 0 0 (some ⟨w2.heap.size + 1, 0, none⟩) (18 + q) (18 + q) (List.replicate (18 + q) 0) none 0 0 [] 0 1 none 0 0 [] w7 (fun w' h => HX6.out.below (HB7.out.trans (h.mono HB7.out.size)) HLX.out) (fun w' h => By.nil w') (fun w' h => HY6.out.below (HB7.out.trans (h.mono HB7.out.size)) HLY.out) (by omega) (by omega) (by omega) (by omega) (by omega) (by omega) (by omega)).mono ?_
  rintro e w8 ⟨a8, n8, c8, rfl, _, hk8⟩
  rw [HER.out]
  have HK8 := Lib.hid (HK7.out.trans (hk8.mono HK7.out.size))
  have he := HE2.out
  clear hk8 z0 z1 z2 z3 z4 z5 z6
  go_wp2_with fail
  go_returns
  exact ⟨by simp, HK8.out⟩

set_option maxRecDepth 100000 in
set_option maxHeartbeats 3200000 in
theorem great_1_true_gt (w : World) (wt n : Int) (q : Nat) (hr : wt % 4 = 1) (w0 : 0 ≤ wt) (w255 : wt ≤ 255) (n0 : 0 ≤ n) (n255 : n ≤ 255) (hq : n % 5 = (q : Int)) (hq5 : q < 5) (hqI : ¬ (q : Int) - 2 ≤ 0) :
    Calls Try.prog 4 #[.int .u8 wt, .int .u8 n, .bool true] w fun e w' => e = .returned (.bool true) ∧ Below w.heap.size w w' := by
  go_enter Try.func4, Try.ntmps4
  go_wp2_with fail
  refine (known_any w).mono ?_
  rintro e w1 ⟨rfl, hk1⟩
  have HK1 := Lib.hid hk1
  clear hk1
  go_wp2_with (refine wpList_make8 _ rfl _ _ rfl 8 rfl rfl (by omega) ?_; intro w2 ho2 hk2; refine halt ?_)
  have HO2 := Lib.hid ho2
  have HK2 := Lib.hid (HK1.out.trans (hk2.mono HK1.out.size))
  have hs2 : w1.heap.size < w2.heap.size := (ho2.ge _ rfl).2
  clear ho2 hk2
  refine Halted.go ?_
  go_wp2_with (refine wpList_make8 _ rfl _ _ rfl (18 + q) (show Value.int .i64 ((20 : Int) + ((q : Int) - 2)) = Value.int .i64 (((18 + q) : Nat) : Int) from by congr 1; omega) (show Value.int .i64 ((20 : Int) + ((q : Int) - 2)) = Value.int .i64 (((18 + q) : Nat) : Int) from by congr 1; omega) (by omega) ?_; intro w3 ho3 hk3; refine halt ?_)
  have hsa : (w2.alloc (.cells #[.bool true, .int .i64 0, .int .u32 0, .slice (some ⟨w1.heap.size, 0, none⟩) 8 8, .slice none 0 0, .int .u64 0, .int .i64 1] 29 (0, 0))).heap.size = w2.heap.size + 1 := by simp
  rw [hsa] at ho3 hk3
  have HO3 := Lib.hid ho3
  have HK3 := Lib.hid ((HK2.out.alloc HK2.out.size (.cells #[.bool true, .int .i64 0, .int .u32 0, .slice (some ⟨w1.heap.size, 0, none⟩) 8 8, .slice none 0 0, .int .u64 0, .int .i64 1] 29 (0, 0))).trans (hk3.mono (by have := HK2.out.size; omega)))
  have HH3 := Lib.hid ((Below.keeps hk3).blk (Blk.new w2 #[.bool true, .int .i64 0, .int .u32 0, .slice (some ⟨w1.heap.size, 0, none⟩) 8 8, .slice none 0 0, .int .u64 0, .int .i64 1] 29) (by omega))
  have HX3 : Hid (By w3 (some ⟨w1.heap.size, 0, none⟩) 8 8 (List.replicate 8 0)) := Lib.hid ((HO2.out.by.alloc _).below hk3 (fun b hb => by simp at hb; omega))
  have hs3 : w2.heap.size + 1 < w3.heap.size := (ho3.ge _ rfl).2
  clear ho3 hk3 hsa
  refine Halted.go ?_
  obtain ⟨⟨z0, z1, z2, z3, z4, z5, z6⟩, y0, y1, y2, y3, y4, y5, y6⟩ := hd_cells HH3.out
  go_wp2_with fail
  clear z0 z1 z2 z3 z4 z5 z6 y0 y1 y2 y3 y4 y5 y6
  refine calls_named ?_
  intro w6 hw6
  have HH6 : Hid (Blk w6 w2.heap.size #[.bool true, .int .i64 0, .int .u32 0, .slice (some ⟨w2.heap.size + 1, 0, none⟩) (18 + q) (18 + q), .slice none 0 0, .int .u64 0, .int .i64 1] 29) := Lib.hid (by rw [← hw6]; exact HH3.out.set 3 _)
  have HX6 : Hid (By w6 (some ⟨w2.heap.size + 1, 0, none⟩) (18 + q) (18 + q) (List.replicate (18 + q) 0)) := Lib.hid (by rw [← hw6]; exact HO3.out.by.keep ((Keeps.refl (fun k => k = w2.heap.size) w3).put 3 _) (fun b hb e => by simp at hb; omega))
  have hs6 : w6.heap.size = w3.heap.size := by rw [← hw6]; simp
  have HK6 : Hid (Below w.heap.size w w6) := Lib.hid (by rw [← hw6]; exact HK3.out.setCell (p := ⟨w2.heap.size, 3, none⟩) (show w.heap.size ≤ w2.heap.size by have := HK2.out.size; omega) _)
  have HY6 : Hid (By w6 none 0 0 []) := Lib.hid (By.nil _)
  have HLX : Hid (∀ b, (some (⟨w2.heap.size + 1, 0, none⟩ : Addr)).map (·.block) = some b → b < w6.heap.size) := Lib.hid (fun b hb => by simp at hb; omega)
  have HLY : Hid (∀ b, (none : Option Addr).map (·.block) = some b → b < w6.heap.size) := Lib.hid (fun b hb => by cases hb)
  have hl6 : w2.heap.size < w6.heap.size := by omega
  clear hw6
  have HW : Hid (wrOK true 0 0 (List.replicate (18 + q) 0) [] 0 1 [] = false) := Lib.hid (by rw [great1 true _ (by omega) (by omega)]; rw [decide_eq_false (by omega)]; rfl)
  refine (write_any true 0 0 (some ⟨w2.heap.size + 1, 0, none⟩) (18 + q) (18 + q) (List.replicate (18 + q) 0) none 0 0 [] 0 1 none 0 0 [] w6 (fun w' h => HX6.out.below h HLX.out) (fun w' h => By.nil w') (fun w' h => HY6.out.below h HLY.out) (by omega) (by omega) (by omega) (by omega) (by omega) (by omega) (by omega)).mono ?_
  rintro e w7 ⟨a7, n7, c7, rfl, ho7, hk7⟩
  have hn7 : (n7 : Int) ≤ 1200 := by have h1 := ho7.1; have h2 := wrX_le true 0 0 (List.replicate (18 + q) 0) [] 0 1 []; omega
  have HE := wrE_eq true 0 0 (List.replicate (18 + q) 0) [] 0 1 []
  rw [HW.out] at HE
  obtain ⟨er, her⟩ : ∃ er, wrE true 0 0 (List.replicate (18 + q) 0) [] 0 1 [] = er := ⟨_, rfl⟩
  rw [her] at HE ⊢
  have HER := Lib.hid her
  have HE2 := Lib.hid HE
  have HK7 := Lib.hid (HK6.out.trans (hk7.mono HK6.out.size))
  have HH7 := Lib.hid ((Below.keeps hk7).blk HH6.out (by omega))
  have HB7 := Lib.hid hk7
  clear ho7 hk7 her HE
  obtain ⟨⟨z0, z1, z2, z3, z4, z5, z6⟩, _⟩ := hd_cells HH7.out
  go_wp2_with fail
  refine (ref_any true 0 0 (some ⟨w2.heap.size + 1, 0, none⟩) (18 + q) (18 + q) (List.replicate (18 + q) 0) none 0 0 [] 0 1 none 0 0 [] w7 (fun w' h => HX6.out.below (HB7.out.trans (h.mono HB7.out.size)) HLX.out) (fun w' h => By.nil w') (fun w' h => HY6.out.below (HB7.out.trans (h.mono HB7.out.size)) HLY.out) (by omega) (by omega) (by omega) (by omega) (by omega) (by omega) (by omega)).mono ?_
  rintro e w8 ⟨a8, n8, c8, rfl, _, hk8⟩
  rw [HER.out]
  have HK8 := Lib.hid (HK7.out.trans (hk8.mono HK7.out.size))
  have he := HE2.out
  clear hk8 z0 z1 z2 z3 z4 z5 z6
  go_wp2_with fail
  go_returns
  exact ⟨by simp, HK8.out⟩

set_option maxRecDepth 100000 in
set_option maxHeartbeats 3200000 in
theorem great_2_any_le (w : World) (wt n : Int) (lg : Bool) (q : Nat) (hr : wt % 4 = 2) (w0 : 0 ≤ wt) (w255 : wt ≤ 255) (n0 : 0 ≤ n) (n255 : n ≤ 255) (hq : n % 5 = (q : Int)) (hq5 : q < 5) (hqI : (q : Int) - 2 ≤ 0) :
    Calls Try.prog 4 #[.int .u8 wt, .int .u8 n, .bool lg] w fun e w' => e = .returned (.bool true) ∧ Below w.heap.size w w' := by
  go_enter Try.func4, Try.ntmps4
  go_wp2_with fail
  refine (known_any w).mono ?_
  rintro e w1 ⟨rfl, hk1⟩
  have HK1 := Lib.hid hk1
  clear hk1
  go_wp2_with (refine wpList_make8 _ rfl _ _ rfl 8 rfl rfl (by omega) ?_; intro w2 ho2 hk2; refine halt ?_)
  have HO2 := Lib.hid ho2
  have HK2 := Lib.hid (HK1.out.trans (hk2.mono HK1.out.size))
  have hs2 : w1.heap.size < w2.heap.size := (ho2.ge _ rfl).2
  clear ho2 hk2
  refine Halted.go ?_
  have HH3 := Lib.hid (Blk.new w2 #[.bool lg, .int .i64 0, .int .u32 0, .slice (some ⟨w1.heap.size, 0, none⟩) 8 8, .slice none 0 0, .int .u64 0, .int .i64 1] 29)
  obtain ⟨⟨z0, z1, z2, z3, z4, z5, z6⟩, y0, y1, y2, y3, y4, y5, y6⟩ := hd_cells HH3.out
  go_wp2_with fail
  clear z0 z1 z2 z3 z4 z5 z6 y0 y1 y2 y3 y4 y5 y6
  refine calls_named ?_
  intro w6 hw6
  have HH6 : Hid (Blk w6 w2.heap.size #[.bool lg, .int .i64 0, .int .u32 0, .slice (some ⟨w1.heap.size, 0, none⟩) 8 8, .slice none 0 0, .int .u64 0, .int .i64 (4 + ((q : Int) - 2))] 29) := Lib.hid (by rw [← hw6]; first | exact (Blk.new w2 _ _) | exact (Blk.new w2 _ _).set 6 _ | exact ((Blk.new w2 _ _).set 6 _).as (by simp))
  have HX6 : Hid (By w6 (some ⟨w1.heap.size, 0, none⟩) 8 8 (List.replicate 8 0)) := Lib.hid (by rw [← hw6]; first | exact HO2.out.by.alloc _ | exact (HO2.out.by.alloc _).keep ((Keeps.refl (fun k => k = w2.heap.size) _).put 6 _) (fun b hb e => by simp at hb; omega) | exact (HO2.out.by.alloc _).keep (((Keeps.refl (fun k => k = w2.heap.size) _).put 6 _).put 5 _) (fun b hb e => by simp at hb; omega))
  have hs6 : w6.heap.size = w2.heap.size + 1 := by rw [← hw6]; simp
  have hsw : w.heap.size ≤ w2.heap.size := HK2.out.size
  have HK6 : Hid (Below w.heap.size w w6) := Lib.hid (by rw [← hw6]; first | exact HK2.out.alloc hsw _ | exact (HK2.out.alloc hsw _).setCell (p := ⟨w2.heap.size, 6, none⟩) hsw _ | exact ((HK2.out.alloc hsw _).setCell (p := ⟨w2.heap.size, 6, none⟩) hsw _).setCell (p := ⟨w2.heap.size, 5, none⟩) hsw _)
  have HY6 : Hid (By w6 none 0 0 []) := Lib.hid (By.nil _)
  have HLX : Hid (∀ b, (some (⟨w1.heap.size, 0, none⟩ : Addr)).map (·.block) = some b → b < w6.heap.size) := Lib.hid (fun b hb => by simp at hb; omega)
  have HLY : Hid (∀ b, (none : Option Addr).map (·.block) = some b → b < w6.heap.size) := Lib.hid (fun b hb => by cases hb)
  have hl6 : w2.heap.size < w6.heap.size := by omega
  clear hw6
  have HW : Hid (wrOK lg 0 0 (List.replicate 8 0) [] 0 (4 + ((q : Int) - 2)) [] = true) := Lib.hid (by rw [show (4 + ((q : Int) - 2)) = ((2 + q : Nat) : Int) by omega, great2 lg _ (by omega) (by omega)]; exact decide_eq_true (by omega))
  refine (write_any lg 0 0 (some ⟨w1.heap.size, 0, none⟩) 8 8 (List.replicate 8 0) none 0 0 [] 0 (4 + ((q : Int) - 2)) none 0 0 [] w6 (fun w' h => HX6.out.below h HLX.out) (fun w' h => By.nil w') (fun w' h => HY6.out.below h HLY.out) (by omega) (by omega) (by omega) (by omega) (by omega) (by omega) (by omega)).mono ?_
  rintro e w7 ⟨a7, n7, c7, rfl, ho7, hk7⟩
  have hn7 : (n7 : Int) ≤ 1200 := by have h1 := ho7.1; have h2 := wrX_le lg 0 0 (List.replicate 8 0) [] 0 (4 + ((q : Int) - 2)) []; omega
  have HE := wrE_eq lg 0 0 (List.replicate 8 0) [] 0 (4 + ((q : Int) - 2)) []
  rw [HW.out] at HE
  obtain ⟨er, her⟩ : ∃ er, wrE lg 0 0 (List.replicate 8 0) [] 0 (4 + ((q : Int) - 2)) [] = er := ⟨_, rfl⟩
  rw [her] at HE ⊢
  have HER := Lib.hid her
  have HE2 := Lib.hid HE
  have HK7 := Lib.hid (HK6.out.trans (hk7.mono HK6.out.size))
  have HH7 := Lib.hid ((Below.keeps hk7).blk HH6.out (by omega))
  have HB7 := Lib.hid hk7
  clear ho7 hk7 her HE
  obtain ⟨⟨z0, z1, z2, z3, z4, z5, z6⟩, _⟩ := hd_cells HH7.out
  go_wp2_with fail
  refine (ref_any lg 0 0 (some ⟨w1.heap.size, 0, none⟩) 8 8 (List.replicate 8 0) none 0 0 [] 0 (4 + ((q : Int) - 2)) none 0 0 [] w7 (fun w' h => HX6.out.below (HB7.out.trans (h.mono HB7.out.size)) HLX.out) (fun w' h => By.nil w') (fun w' h => HY6.out.below (HB7.out.trans (h.mono HB7.out.size)) HLY.out) (by omega) (by omega) (by omega) (by omega) (by omega) (by omega) (by omega)).mono ?_
  rintro e w8 ⟨a8, n8, c8, rfl, _, hk8⟩
  rw [HER.out]
  have HK8 := Lib.hid (HK7.out.trans (hk8.mono HK7.out.size))
  have he := HE2.out
  clear hk8 z0 z1 z2 z3 z4 z5 z6
  go_wp2_with fail
  go_returns
  exact ⟨by simp, HK8.out⟩

set_option maxRecDepth 100000 in
set_option maxHeartbeats 3200000 in
theorem great_2_any_gt (w : World) (wt n : Int) (lg : Bool) (q : Nat) (hr : wt % 4 = 2) (w0 : 0 ≤ wt) (w255 : wt ≤ 255) (n0 : 0 ≤ n) (n255 : n ≤ 255) (hq : n % 5 = (q : Int)) (hq5 : q < 5) (hqI : ¬ (q : Int) - 2 ≤ 0) :
    Calls Try.prog 4 #[.int .u8 wt, .int .u8 n, .bool lg] w fun e w' => e = .returned (.bool true) ∧ Below w.heap.size w w' := by
  go_enter Try.func4, Try.ntmps4
  go_wp2_with fail
  refine (known_any w).mono ?_
  rintro e w1 ⟨rfl, hk1⟩
  have HK1 := Lib.hid hk1
  clear hk1
  go_wp2_with (refine wpList_make8 _ rfl _ _ rfl 8 rfl rfl (by omega) ?_; intro w2 ho2 hk2; refine halt ?_)
  have HO2 := Lib.hid ho2
  have HK2 := Lib.hid (HK1.out.trans (hk2.mono HK1.out.size))
  have hs2 : w1.heap.size < w2.heap.size := (ho2.ge _ rfl).2
  clear ho2 hk2
  refine Halted.go ?_
  have HH3 := Lib.hid (Blk.new w2 #[.bool lg, .int .i64 0, .int .u32 0, .slice (some ⟨w1.heap.size, 0, none⟩) 8 8, .slice none 0 0, .int .u64 0, .int .i64 1] 29)
  obtain ⟨⟨z0, z1, z2, z3, z4, z5, z6⟩, y0, y1, y2, y3, y4, y5, y6⟩ := hd_cells HH3.out
  go_wp2_with fail
  clear z0 z1 z2 z3 z4 z5 z6 y0 y1 y2 y3 y4 y5 y6
  refine calls_named ?_
  intro w6 hw6
  have HH6 : Hid (Blk w6 w2.heap.size #[.bool lg, .int .i64 0, .int .u32 0, .slice (some ⟨w1.heap.size, 0, none⟩) 8 8, .slice none 0 0, .int .u64 0, .int .i64 (4 + ((q : Int) - 2))] 29) := Lib.hid (by rw [← hw6]; first | exact (Blk.new w2 _ _) | exact (Blk.new w2 _ _).set 6 _ | exact ((Blk.new w2 _ _).set 6 _).as (by simp))
  have HX6 : Hid (By w6 (some ⟨w1.heap.size, 0, none⟩) 8 8 (List.replicate 8 0)) := Lib.hid (by rw [← hw6]; first | exact HO2.out.by.alloc _ | exact (HO2.out.by.alloc _).keep ((Keeps.refl (fun k => k = w2.heap.size) _).put 6 _) (fun b hb e => by simp at hb; omega) | exact (HO2.out.by.alloc _).keep (((Keeps.refl (fun k => k = w2.heap.size) _).put 6 _).put 5 _) (fun b hb e => by simp at hb; omega))
  have hs6 : w6.heap.size = w2.heap.size + 1 := by rw [← hw6]; simp
  have hsw : w.heap.size ≤ w2.heap.size := HK2.out.size
  have HK6 : Hid (Below w.heap.size w w6) := Lib.hid (by rw [← hw6]; first | exact HK2.out.alloc hsw _ | exact (HK2.out.alloc hsw _).setCell (p := ⟨w2.heap.size, 6, none⟩) hsw _ | exact ((HK2.out.alloc hsw _).setCell (p := ⟨w2.heap.size, 6, none⟩) hsw _).setCell (p := ⟨w2.heap.size, 5, none⟩) hsw _)
  have HY6 : Hid (By w6 none 0 0 []) := Lib.hid (By.nil _)
  have HLX : Hid (∀ b, (some (⟨w1.heap.size, 0, none⟩ : Addr)).map (·.block) = some b → b < w6.heap.size) := Lib.hid (fun b hb => by simp at hb; omega)
  have HLY : Hid (∀ b, (none : Option Addr).map (·.block) = some b → b < w6.heap.size) := Lib.hid (fun b hb => by cases hb)
  have hl6 : w2.heap.size < w6.heap.size := by omega
  clear hw6
  have HW : Hid (wrOK lg 0 0 (List.replicate 8 0) [] 0 (4 + ((q : Int) - 2)) [] = false) := Lib.hid (by rw [show (4 + ((q : Int) - 2)) = ((2 + q : Nat) : Int) by omega, great2 lg _ (by omega) (by omega)]; exact decide_eq_false (by omega))
  refine (write_any lg 0 0 (some ⟨w1.heap.size, 0, none⟩) 8 8 (List.replicate 8 0) none 0 0 [] 0 (4 + ((q : Int) - 2)) none 0 0 [] w6 (fun w' h => HX6.out.below h HLX.out) (fun w' h => By.nil w') (fun w' h => HY6.out.below h HLY.out) (by omega) (by omega) (by omega) (by omega) (by omega) (by omega) (by omega)).mono ?_
  rintro e w7 ⟨a7, n7, c7, rfl, ho7, hk7⟩
  have hn7 : (n7 : Int) ≤ 1200 := by have h1 := ho7.1; have h2 := wrX_le lg 0 0 (List.replicate 8 0) [] 0 (4 + ((q : Int) - 2)) []; omega
  have HE := wrE_eq lg 0 0 (List.replicate 8 0) [] 0 (4 + ((q : Int) - 2)) []
  rw [HW.out] at HE
  obtain ⟨er, her⟩ : ∃ er, wrE lg 0 0 (List.replicate 8 0) [] 0 (4 + ((q : Int) - 2)) [] = er := ⟨_, rfl⟩
  rw [her] at HE ⊢
  have HER := Lib.hid her
  have HE2 := Lib.hid HE
  have HK7 := Lib.hid (HK6.out.trans (hk7.mono HK6.out.size))
  have HH7 := Lib.hid ((Below.keeps hk7).blk HH6.out (by omega))
  have HB7 := Lib.hid hk7
  clear ho7 hk7 her HE
  obtain ⟨⟨z0, z1, z2, z3, z4, z5, z6⟩, _⟩ := hd_cells HH7.out
  go_wp2_with fail
  refine (ref_any lg 0 0 (some ⟨w1.heap.size, 0, none⟩) 8 8 (List.replicate 8 0) none 0 0 [] 0 (4 + ((q : Int) - 2)) none 0 0 [] w7 (fun w' h => HX6.out.below (HB7.out.trans (h.mono HB7.out.size)) HLX.out) (fun w' h => By.nil w') (fun w' h => HY6.out.below (HB7.out.trans (h.mono HB7.out.size)) HLY.out) (by omega) (by omega) (by omega) (by omega) (by omega) (by omega) (by omega)).mono ?_
  rintro e w8 ⟨a8, n8, c8, rfl, _, hk8⟩
  rw [HER.out]
  have HK8 := Lib.hid (HK7.out.trans (hk8.mono HK7.out.size))
  have he := HE2.out
  clear hk8 z0 z1 z2 z3 z4 z5 z6
  go_wp2_with fail
  go_returns
  exact ⟨by simp, HK8.out⟩

set_option maxRecDepth 100000 in
set_option maxHeartbeats 3200000 in
theorem great_3_any_le (w : World) (wt n : Int) (lg : Bool) (q : Nat) (hr : wt % 4 = 3) (w0 : 0 ≤ wt) (w255 : wt ≤ 255) (n0 : 0 ≤ n) (n255 : n ≤ 255) (hq : n % 5 = (q : Int)) (hq5 : q < 5) (hqI : (q : Int) - 2 ≤ 0) :
    Calls Try.prog 4 #[.int .u8 wt, .int .u8 n, .bool lg] w fun e w' => e = .returned (.bool true) ∧ Below w.heap.size w w' := by
  go_enter Try.func4, Try.ntmps4
  go_wp2_with fail
  refine (known_any w).mono ?_
  rintro e w1 ⟨rfl, hk1⟩
  have HK1 := Lib.hid hk1
  clear hk1
  go_wp2_with (refine wpList_make8 _ rfl _ _ rfl 8 rfl rfl (by omega) ?_; intro w2 ho2 hk2; refine halt ?_)
  have HO2 := Lib.hid ho2
  have HK2 := Lib.hid (HK1.out.trans (hk2.mono HK1.out.size))
  have hs2 : w1.heap.size < w2.heap.size := (ho2.ge _ rfl).2
  clear ho2 hk2
  refine Halted.go ?_
  have HH3 := Lib.hid (Blk.new w2 #[.bool lg, .int .i64 0, .int .u32 0, .slice (some ⟨w1.heap.size, 0, none⟩) 8 8, .slice none 0 0, .int .u64 0, .int .i64 1] 29)
  obtain ⟨⟨z0, z1, z2, z3, z4, z5, z6⟩, y0, y1, y2, y3, y4, y5, y6⟩ := hd_cells HH3.out
  go_wp2_with fail
  clear z0 z1 z2 z3 z4 z5 z6 y0 y1 y2 y3 y4 y5 y6
  refine calls_named ?_
  intro w6 hw6
  have HH6 : Hid (Blk w6 w2.heap.size #[.bool lg, .int .i64 0, .int .u32 0, .slice (some ⟨w1.heap.size, 0, none⟩) 8 8, .slice none 0 0, .int .u64 (65535 + ((q : Int) - 2)), .int .i64 2] 29) := Lib.hid (by rw [← hw6]; first | exact (Blk.new w2 _ _) | exact ((Blk.new w2 _ _).set 6 _).set 5 _ | exact (((Blk.new w2 _ _).set 6 _).set 5 _).as (by simp))
  have HX6 : Hid (By w6 (some ⟨w1.heap.size, 0, none⟩) 8 8 (List.replicate 8 0)) := Lib.hid (by rw [← hw6]; first | exact HO2.out.by.alloc _ | exact (HO2.out.by.alloc _).keep ((Keeps.refl (fun k => k = w2.heap.size) _).put 6 _) (fun b hb e => by simp at hb; omega) | exact (HO2.out.by.alloc _).keep (((Keeps.refl (fun k => k = w2.heap.size) _).put 6 _).put 5 _) (fun b hb e => by simp at hb; omega))
  have hs6 : w6.heap.size = w2.heap.size + 1 := by rw [← hw6]; simp
  have hsw : w.heap.size ≤ w2.heap.size := HK2.out.size
  have HK6 : Hid (Below w.heap.size w w6) := Lib.hid (by rw [← hw6]; first | exact HK2.out.alloc hsw _ | exact (HK2.out.alloc hsw _).setCell (p := ⟨w2.heap.size, 6, none⟩) hsw _ | exact ((HK2.out.alloc hsw _).setCell (p := ⟨w2.heap.size, 6, none⟩) hsw _).setCell (p := ⟨w2.heap.size, 5, none⟩) hsw _)
  have HY6 : Hid (By w6 none 0 0 []) := Lib.hid (By.nil _)
  have HLX : Hid (∀ b, (some (⟨w1.heap.size, 0, none⟩ : Addr)).map (·.block) = some b → b < w6.heap.size) := Lib.hid (fun b hb => by simp at hb; omega)
  have HLY : Hid (∀ b, (none : Option Addr).map (·.block) = some b → b < w6.heap.size) := Lib.hid (fun b hb => by cases hb)
  have hl6 : w2.heap.size < w6.heap.size := by omega
  clear hw6
  have HW : Hid (wrOK lg 0 0 (List.replicate 8 0) [] (65535 + ((q : Int) - 2)) 2 [] = true) := Lib.hid (by rw [great3 lg _ (by omega) (by omega)]; exact decide_eq_true (by omega))
  refine (write_any lg 0 0 (some ⟨w1.heap.size, 0, none⟩) 8 8 (List.replicate 8 0) none 0 0 [] (65535 + ((q : Int) - 2)) 2 none 0 0 [] w6 (fun w' h => HX6.out.below h HLX.out) (fun w' h => By.nil w') (fun w' h => HY6.out.below h HLY.out) (by omega) (by omega) (by omega) (by omega) (by omega) (by omega) (by omega)).mono ?_
  rintro e w7 ⟨a7, n7, c7, rfl, ho7, hk7⟩
  have hn7 : (n7 : Int) ≤ 1200 := by have h1 := ho7.1; have h2 := wrX_le lg 0 0 (List.replicate 8 0) [] (65535 + ((q : Int) - 2)) 2 []; omega
  have HE := wrE_eq lg 0 0 (List.replicate 8 0) [] (65535 + ((q : Int) - 2)) 2 []
  rw [HW.out] at HE
  obtain ⟨er, her⟩ : ∃ er, wrE lg 0 0 (List.replicate 8 0) [] (65535 + ((q : Int) - 2)) 2 [] = er := ⟨_, rfl⟩
  rw [her] at HE ⊢
  have HER := Lib.hid her
  have HE2 := Lib.hid HE
  have HK7 := Lib.hid (HK6.out.trans (hk7.mono HK6.out.size))
  have HH7 := Lib.hid ((Below.keeps hk7).blk HH6.out (by omega))
  have HB7 := Lib.hid hk7
  clear ho7 hk7 her HE
  obtain ⟨⟨z0, z1, z2, z3, z4, z5, z6⟩, _⟩ := hd_cells HH7.out
  go_wp2_with fail
  refine (ref_any lg 0 0 (some ⟨w1.heap.size, 0, none⟩) 8 8 (List.replicate 8 0) none 0 0 [] (65535 + ((q : Int) - 2)) 2 none 0 0 [] w7 (fun w' h => HX6.out.below (HB7.out.trans (h.mono HB7.out.size)) HLX.out) (fun w' h => By.nil w') (fun w' h => HY6.out.below (HB7.out.trans (h.mono HB7.out.size)) HLY.out) (by omega) (by omega) (by omega) (by omega) (by omega) (by omega) (by omega)).mono ?_
  rintro e w8 ⟨a8, n8, c8, rfl, _, hk8⟩
  rw [HER.out]
  have HK8 := Lib.hid (HK7.out.trans (hk8.mono HK7.out.size))
  have he := HE2.out
  clear hk8 z0 z1 z2 z3 z4 z5 z6
  go_wp2_with fail
  go_returns
  exact ⟨by simp, HK8.out⟩

set_option maxRecDepth 100000 in
set_option maxHeartbeats 3200000 in
theorem great_3_any_gt (w : World) (wt n : Int) (lg : Bool) (q : Nat) (hr : wt % 4 = 3) (w0 : 0 ≤ wt) (w255 : wt ≤ 255) (n0 : 0 ≤ n) (n255 : n ≤ 255) (hq : n % 5 = (q : Int)) (hq5 : q < 5) (hqI : ¬ (q : Int) - 2 ≤ 0) :
    Calls Try.prog 4 #[.int .u8 wt, .int .u8 n, .bool lg] w fun e w' => e = .returned (.bool true) ∧ Below w.heap.size w w' := by
  go_enter Try.func4, Try.ntmps4
  go_wp2_with fail
  refine (known_any w).mono ?_
  rintro e w1 ⟨rfl, hk1⟩
  have HK1 := Lib.hid hk1
  clear hk1
  go_wp2_with (refine wpList_make8 _ rfl _ _ rfl 8 rfl rfl (by omega) ?_; intro w2 ho2 hk2; refine halt ?_)
  have HO2 := Lib.hid ho2
  have HK2 := Lib.hid (HK1.out.trans (hk2.mono HK1.out.size))
  have hs2 : w1.heap.size < w2.heap.size := (ho2.ge _ rfl).2
  clear ho2 hk2
  refine Halted.go ?_
  have HH3 := Lib.hid (Blk.new w2 #[.bool lg, .int .i64 0, .int .u32 0, .slice (some ⟨w1.heap.size, 0, none⟩) 8 8, .slice none 0 0, .int .u64 0, .int .i64 1] 29)
  obtain ⟨⟨z0, z1, z2, z3, z4, z5, z6⟩, y0, y1, y2, y3, y4, y5, y6⟩ := hd_cells HH3.out
  go_wp2_with fail
  clear z0 z1 z2 z3 z4 z5 z6 y0 y1 y2 y3 y4 y5 y6
  refine calls_named ?_
  intro w6 hw6
  have HH6 : Hid (Blk w6 w2.heap.size #[.bool lg, .int .i64 0, .int .u32 0, .slice (some ⟨w1.heap.size, 0, none⟩) 8 8, .slice none 0 0, .int .u64 (65535 + ((q : Int) - 2)), .int .i64 2] 29) := Lib.hid (by rw [← hw6]; first | exact (Blk.new w2 _ _) | exact ((Blk.new w2 _ _).set 6 _).set 5 _ | exact (((Blk.new w2 _ _).set 6 _).set 5 _).as (by simp))
  have HX6 : Hid (By w6 (some ⟨w1.heap.size, 0, none⟩) 8 8 (List.replicate 8 0)) := Lib.hid (by rw [← hw6]; first | exact HO2.out.by.alloc _ | exact (HO2.out.by.alloc _).keep ((Keeps.refl (fun k => k = w2.heap.size) _).put 6 _) (fun b hb e => by simp at hb; omega) | exact (HO2.out.by.alloc _).keep (((Keeps.refl (fun k => k = w2.heap.size) _).put 6 _).put 5 _) (fun b hb e => by simp at hb; omega))
  have hs6 : w6.heap.size = w2.heap.size + 1 := by rw [← hw6]; simp
  have hsw : w.heap.size ≤ w2.heap.size := HK2.out.size
  have HK6 : Hid (Below w.heap.size w w6) := Lib.hid (by rw [← hw6]; first | exact HK2.out.alloc hsw _ | exact (HK2.out.alloc hsw _).setCell (p := ⟨w2.heap.size, 6, none⟩) hsw _ | exact ((HK2.out.alloc hsw _).setCell (p := ⟨w2.heap.size, 6, none⟩) hsw _).setCell (p := ⟨w2.heap.size, 5, none⟩) hsw _)
  have HY6 : Hid (By w6 none 0 0 []) := Lib.hid (By.nil _)
  have HLX : Hid (∀ b, (some (⟨w1.heap.size, 0, none⟩ : Addr)).map (·.block) = some b → b < w6.heap.size) := Lib.hid (fun b hb => by simp at hb; omega)
  have HLY : Hid (∀ b, (none : Option Addr).map (·.block) = some b → b < w6.heap.size) := Lib.hid (fun b hb => by cases hb)
  have hl6 : w2.heap.size < w6.heap.size := by omega
  clear hw6
  have HW : Hid (wrOK lg 0 0 (List.replicate 8 0) [] (65535 + ((q : Int) - 2)) 2 [] = false) := Lib.hid (by rw [great3 lg _ (by omega) (by omega)]; exact decide_eq_false (by omega))
  refine (write_any lg 0 0 (some ⟨w1.heap.size, 0, none⟩) 8 8 (List.replicate 8 0) none 0 0 [] (65535 + ((q : Int) - 2)) 2 none 0 0 [] w6 (fun w' h => HX6.out.below h HLX.out) (fun w' h => By.nil w') (fun w' h => HY6.out.below h HLY.out) (by omega) (by omega) (by omega) (by omega) (by omega) (by omega) (by omega)).mono ?_
  rintro e w7 ⟨a7, n7, c7, rfl, ho7, hk7⟩
  have hn7 : (n7 : Int) ≤ 1200 := by have h1 := ho7.1; have h2 := wrX_le lg 0 0 (List.replicate 8 0) [] (65535 + ((q : Int) - 2)) 2 []; omega
  have HE := wrE_eq lg 0 0 (List.replicate 8 0) [] (65535 + ((q : Int) - 2)) 2 []
  rw [HW.out] at HE
  obtain ⟨er, her⟩ : ∃ er, wrE lg 0 0 (List.replicate 8 0) [] (65535 + ((q : Int) - 2)) 2 [] = er := ⟨_, rfl⟩
  rw [her] at HE ⊢
  have HER := Lib.hid her
  have HE2 := Lib.hid HE
  have HK7 := Lib.hid (HK6.out.trans (hk7.mono HK6.out.size))
  have HH7 := Lib.hid ((Below.keeps hk7).blk HH6.out (by omega))
  have HB7 := Lib.hid hk7
  clear ho7 hk7 her HE
  obtain ⟨⟨z0, z1, z2, z3, z4, z5, z6⟩, _⟩ := hd_cells HH7.out
  go_wp2_with fail
  refine (ref_any lg 0 0 (some ⟨w1.heap.size, 0, none⟩) 8 8 (List.replicate 8 0) none 0 0 [] (65535 + ((q : Int) - 2)) 2 none 0 0 [] w7 (fun w' h => HX6.out.below (HB7.out.trans (h.mono HB7.out.size)) HLX.out) (fun w' h => By.nil w') (fun w' h => HY6.out.below (HB7.out.trans (h.mono HB7.out.size)) HLY.out) (by omega) (by omega) (by omega) (by omega) (by omega) (by omega) (by omega)).mono ?_
  rintro e w8 ⟨a8, n8, c8, rfl, _, hk8⟩
  rw [HER.out]
  have HK8 := Lib.hid (HK7.out.trans (hk8.mono HK7.out.size))
  have he := HE2.out
  clear hk8 z0 z1 z2 z3 z4 z5 z6
  go_wp2_with fail
  go_returns
  exact ⟨by simp, HK8.out⟩

theorem walkPktGreat (w : World) (wt : Int) (hw : (Lit.int .u8 wt).wf = true) (n : Int) (hn : (Lit.int .u8 n).wf = true) (lg : Bool) :
    Calls Try.prog 4 #[.int .u8 wt, .int .u8 n, .bool lg] w fun e w' => e = .returned (.bool true) ∧ Below w.heap.size w w' := by
  obtain ⟨w0, w1⟩ := wf_u8_iff hw
  obtain ⟨n0, n1⟩ := wf_u8_iff hn
  obtain ⟨q, hq, hq5⟩ : ∃ q : Nat, n % 5 = q ∧ q < 5 := ⟨(n % 5).toNat, by omega, by omega⟩
  rcases (show wt % 4 = 0 ∨ wt % 4 = 1 ∨ wt % 4 = 2 ∨ wt % 4 = 3 by omega) with hr | hr | hr | hr
  · cases lg with
    | false =>
      by_cases hqI : (q : Int) - 2 ≤ 0
      · exact great_0_false_le w wt n q hr w0 w1 n0 n1 hq hq5 hqI
      · exact great_0_false_gt w wt n q hr w0 w1 n0 n1 hq hq5 hqI
    | true =>
      by_cases hqI : (q : Int) - 2 ≤ 0
      · exact great_0_true_le w wt n q hr w0 w1 n0 n1 hq hq5 hqI
      · exact great_0_true_gt w wt n q hr w0 w1 n0 n1 hq hq5 hqI
  · cases lg with
    | false =>
      by_cases hqI : (q : Int) - 2 ≤ 0
      · exact great_1_false_le w wt n q hr w0 w1 n0 n1 hq hq5 hqI
      · exact great_1_false_gt w wt n q hr w0 w1 n0 n1 hq hq5 hqI
    | true =>
      by_cases hqI : (q : Int) - 2 ≤ 0
      · exact great_1_true_le w wt n q hr w0 w1 n0 n1 hq hq5 hqI
      · exact great_1_true_gt w wt n q hr w0 w1 n0 n1 hq hq5 hqI
  · by_cases hqI : (q : Int) - 2 ≤ 0
    · exact great_2_any_le w wt n lg q hr w0 w1 n0 n1 hq hq5 hqI
    · exact great_2_any_gt w wt n lg q hr w0 w1 n0 n1 hq hq5 hqI
  · by_cases hqI : (q : Int) - 2 ≤ 0
    · exact great_3_any_le w wt n lg q hr w0 w1 n0 n1 hq hq5 hqI
    · exact great_3_any_gt w wt n lg q hr w0 w1 n0 n1 hq hq5 hqI

end Go.Proofs.Ytaokhgpidifedaa
