/- known: the chapter's example. -/
import Derived.Test.YtaokhgpidifedaaPktK
import Derived.Lib.SlBytesConst
namespace Go.Proofs.Ytaokhgpidifedaa
open Go.RowKit Go.Deep

theorem kn_w : wrX false 0 0 (List.replicate 8 0) [] 5 1 [97, 98, 99] = pktS (List.replicate 8 0) 5 1 [97, 98, 99] ∧ wrE false 0 0 (List.replicate 8 0) [] 5 1 [97, 98, 99] = 0 := by decide +kernel
theorem kn_l : (pktS (List.replicate 8 0) 5 1 [97, 98, 99]).length = 13 := by decide +kernel

theorem conv_three (w : World) (x y z : Value) (g : Nat) (hg : g = w.heap.size) : (convert 24 24 (.slice (some ⟨g, 0, none⟩) 3 3)).run Try.prog (w.alloc (.cells #[x, y, z] 5 (0, 0))) = .ok (.slice (some ⟨g, 0, none⟩) 3 3) (w.alloc (.cells #[x, y, z] 5 (3, 4))) := by
  subst hg
  exact Lib.run_convert_bytes_const w 24 5 #[x, y, z] 3 3 Try.underlying24 Try.underlying5
theorem upon_conv {P : Program} {o : Oper} {a : Act} {K : Act → World → Prop} {Q : Exit → Act → World → Prop} {src dst : TypeId} {v u : Value} {w w' : World} (h : (convert src dst v).run P w = .ok u w') (hk : K (a.put o.dst u) w') :
    o.upon P a K Q (((convert src dst v).run P w).andThen fun a w' => .ok (.value a) w') := by rw [h]; exact hk
theorem By.mark (w : World) (xs : List UInt8) (vs : Array Value) (t : TypeId) (fr : Nat × Nat) (h : xs.length ≤ 1000) (hv : vs = (Bs xs).toArray) : By (w.alloc (.cells vs t fr)) (some ⟨w.heap.size, 0, none⟩) xs.length xs.length xs := by
  subst hv
  refine ⟨rfl, Nat.le_refl _, by unfold maxLen; omega, by simp [Bs], .inr ⟨w.heap.size, 0, rfl, by simp, fun j u hj => ?_⟩⟩
  rw [Nat.zero_add, World.cell?_alloc_mark]
  simpa using hj

set_option maxRecDepth 100000 in
set_option maxHeartbeats 3200000 in
theorem known_any (w : World) : Calls Try.prog 5 #[] w fun e w' => e = .returned (.bool true) ∧ Below w.heap.size w w' := by
  go_enter Try.func5, Try.ntmps5
  go_wp2_with (refine wpList_make8 _ rfl _ _ rfl 8 rfl rfl (by omega) ?_; intro w2 ho2 hk2; refine halt ?_)
  have HO2 := Lib.hid ho2
  have HK2 := Lib.hid hk2
  have hs2 : w.heap.size ≤ w2.heap.size := hk2.size
  clear ho2 hk2
  refine Halted.go ?_
  go_wp2_with fail
  refine upon_conv (conv_three (w2.alloc (.cells #[.bool false, .int .i64 0, .int .u32 0, .slice (some ⟨w.heap.size, 0, none⟩) 8 8, .slice none 0 0, .int .u64 5, .int .i64 1] 29 (0, 0))) _ _ _ _ (by simp)) ?_
  go_wp2_with fail
  refine calls_named ?_
  intro w3 hw3
  have hs3 : w3.heap.size = w2.heap.size + 2 := by rw [← hw3]; simp
  have HH3 : Hid (Blk w3 w2.heap.size #[.bool false, .int .i64 0, .int .u32 0, .slice (some ⟨w.heap.size, 0, none⟩) 8 8, .slice none 0 0, .int .u64 5, .int .i64 1] 29) := Lib.hid (by rw [← hw3]; exact (Blk.new w2 _ _).alloc _)
  have HX3 : Hid (By w3 (some ⟨w.heap.size, 0, none⟩) 8 8 (List.replicate 8 0)) := Lib.hid (by rw [← hw3]; exact (HO2.out.by.alloc _).alloc _)
  have HY3 : Hid (By w3 (some ⟨w2.heap.size + 1, 0, none⟩) 3 3 [97, 98, 99]) := Lib.hid (by
    rw [← hw3]
    have h := By.mark (w2.alloc (.cells #[.bool false, .int .i64 0, .int .u32 0, .slice (some ⟨w.heap.size, 0, none⟩) 8 8, .slice none 0 0, .int .u64 5, .int .i64 1] 29 (0, 0))) [97, 98, 99] #[.int .u8 97, .int .u8 98, .int .u8 99] 5 (3, 4) (by simp) rfl
    rwa [World.size_alloc] at h)
  have HK3 : Hid (Below w.heap.size w w3) := Lib.hid (by rw [← hw3]; exact (HK2.out.alloc hs2 _).alloc (by simp; omega) _)
  have hl2 : w.heap.size < w2.heap.size := (HO2.out.ge _ rfl).2
  have HS3 := Lib.hid hs3
  clear hw3 hs3
  refine (write_any false 0 0 _ 8 8 (List.replicate 8 0) none 0 0 [] 5 1 _ 3 3 [97, 98, 99] w3
    (fun w' h => HX3.out.below h (fun b hb => by have := HS3.out; simp at hb; omega)) (fun w' h => By.nil w') (fun w' h => HY3.out.below h (fun b hb => by have := HS3.out; simp at hb; omega))
    (by decide) (by decide) (by decide) (by decide) (by decide)).mono ?_
  rintro e w4 ⟨a4, n4, c4, rfl, ho4, hk4⟩
  rw [kn_w.1] at ho4
  rw [kn_w.2]
  obtain rfl : n4 = 13 := by rw [ho4.1, kn_l]
  have HO4 := Lib.hid ho4
  have HK4 := Lib.hid (HK3.out.trans (hk4.mono HK3.out.size))
  have HH4 := Lib.hid ((Below.keeps hk4).blk HH3.out (by rw [HS3.out]; omega))
  have HX4 := Lib.hid (HX3.out.below hk4 (fun b hb => by have := HS3.out; simp at hb; omega))
  have hs4 : w3.heap.size ≤ w4.heap.size := hk4.size
  clear ho4 hk4
  go_wp2_with fail
  refine (read_short a4 13 c4 (List.replicate 8 0) 5 1 [97, 98, 99] w4 HO4.out.by (by omega) (fun b hb => (HO4.out.ge b hb).2) (by simp) (by omega) (by omega) (by decide) (by decide)).mono ?_
  rintro e w5 ⟨a5, c5, a6, c6, rfl, ho5, ho6, hk5⟩
  have e3 : ([97, 98, 99] : List UInt8).length = 3 := rfl
  rw [e3] at ho6 ⊢
  have HO5 := Lib.hid ho5
  have HO6 := Lib.hid ho6
  have HK5 := Lib.hid (HK4.out.trans (hk5.mono HK4.out.size))
  have HH5 := Lib.hid ((Below.keeps hk5).blk HH4.out (by have := HS3.out; omega))
  have HX5 := Lib.hid (HX4.out.below hk5 (fun b hb => by have := HS3.out; simp at hb; omega))
  have hs5 : w4.heap.size ≤ w5.heap.size := hk5.size
  clear ho5 ho6 hk5 e3
  go_wp2_with fail
  refine calls_named ?_
  intro w6 hw6
  have hs6 : w6.heap.size = w5.heap.size + 2 := by rw [← hw6]; simp
  have HG6 : Hid (Blk w6 w5.heap.size #[.bool false, .int .i64 0, .int .u32 0, .slice a5 8 c5, .slice none 0 0, .int .u64 5, .int .i64 1] 29) := Lib.hid (by rw [← hw6]; exact (Blk.new w5 _ _).alloc _)
  have HH6 : Hid (Blk w6 w2.heap.size #[.bool false, .int .i64 0, .int .u32 0, .slice (some ⟨w.heap.size, 0, none⟩) 8 8, .slice none 0 0, .int .u64 5, .int .i64 1] 29) := Lib.hid (by rw [← hw6]; exact (HH5.out.alloc _).alloc _)
  have HX6 : Hid (By w6 (some ⟨w.heap.size, 0, none⟩) 8 8 (List.replicate 8 0)) := Lib.hid (by rw [← hw6]; exact (HX5.out.alloc _).alloc _)
  have HP6 : Hid (By w6 a5 8 c5 (List.replicate 8 0)) := Lib.hid (by rw [← hw6]; exact (HO5.out.by.alloc _).alloc _)
  have HQ6 : Hid (By w6 a6 3 c6 [97, 98, 99]) := Lib.hid (by rw [← hw6]; exact (HO6.out.by.alloc _).alloc _)
  have HZ6 : Hid (By w6 (some ⟨w5.heap.size + 1, 0, none⟩) 1 1 [0]) := Lib.hid (by
    rw [← hw6]
    have h := By.new (w5.alloc (.cells #[.bool false, .int .i64 0, .int .u32 0, .slice a5 8 c5, .slice none 0 0, .int .u64 5, .int .i64 1] 29 (0, 0))) [0] #[.int .u8 0] 5 (by simp) rfl
    rwa [World.size_alloc] at h)
  have HK6 : Hid (Below w.heap.size w w6) := Lib.hid (by rw [← hw6]; exact (HK5.out.alloc HK5.out.size _).alloc (by have := HK5.out.size; simp; omega) _)
  have HS6 := Lib.hid hs6
  have HL5 : Hid (∀ b, a5.map (·.block) = some b → b < w5.heap.size) := Lib.hid (fun b hb => (HO5.out.ge b hb).2)
  have HL6 : Hid (∀ b, a6.map (·.block) = some b → b < w5.heap.size) := Lib.hid (fun b hb => (HO6.out.ge b hb).2)
  clear hw6 hs6
  refine (read_none (some ⟨w5.heap.size + 1, 0, none⟩) 1 1 [] w6 HZ6.out (by omega) (fun b hb => by have := HS6.out; simp at hb; omega)).mono ?_
  rintro e w7 ⟨rfl, hk7⟩
  have hs7 : w6.heap.size ≤ w7.heap.size := hk7.size
  have HG7 := Lib.hid (((Below.keeps hk7).blk HG6.out (by rw [HS6.out]; omega)).alloc (.cells #[.bool false, .int .i64 0, .int .u32 0, .slice none 0 0, .slice none 0 0, .int .u64 0, .int .i64 0] 29 (0, 0)))
  have HH7 := Lib.hid (((Below.keeps hk7).blk HH6.out (by rw [HS6.out]; have := HS3.out; omega)).alloc (.cells #[.bool false, .int .i64 0, .int .u32 0, .slice none 0 0, .slice none 0 0, .int .u64 0, .int .i64 0] 29 (0, 0)))
  have HX7 := Lib.hid ((HX6.out.below hk7 (fun b hb => by have := HS6.out; have := HS3.out; simp at hb; omega)).alloc (.cells #[.bool false, .int .i64 0, .int .u32 0, .slice none 0 0, .slice none 0 0, .int .u64 0, .int .i64 0] 29 (0, 0)))
  have HP7 := Lib.hid ((HP6.out.below hk7 (fun b hb => by have := HS6.out; have := HL5.out b hb; omega)).alloc (.cells #[.bool false, .int .i64 0, .int .u32 0, .slice none 0 0, .slice none 0 0, .int .u64 0, .int .i64 0] 29 (0, 0)))
  have HQ7 := Lib.hid ((HQ6.out.below hk7 (fun b hb => by have := HS6.out; have := HL6.out b hb; omega)).alloc (.cells #[.bool false, .int .i64 0, .int .u32 0, .slice none 0 0, .slice none 0 0, .int .u64 0, .int .i64 0] 29 (0, 0)))
  have HK7 := Lib.hid ((HK6.out.trans (hk7.mono HK6.out.size)).alloc (Nat.le_trans HK6.out.size hk7.size) (.cells #[.bool false, .int .i64 0, .int .u32 0, .slice none 0 0, .slice none 0 0, .int .u64 0, .int .i64 0] 29 (0, 0)))
  have HS7 : Hid (w7.heap.size + 1 = (w7.alloc (.cells #[.bool false, .int .i64 0, .int .u32 0, .slice none 0 0, .slice none 0 0, .int .u64 0, .int .i64 0] 29 (0, 0))).heap.size) := Lib.hid (by simp)
  clear hk7
  obtain ⟨⟨z0, z1, z2, z3, z4, z5, z6⟩, _⟩ := hd_cells HG7.out
  obtain ⟨⟨y0, y1, y2, y3, y4, y5, y6⟩, _⟩ := hd_cells HH7.out
  go_wp2_with fail
  refine (header_same false 0 0 a5 8 c5 (List.replicate 8 0) none 0 0 [] 5 1 _ 8 8 none 0 0 _ HP7.out (By.nil _) HX7.out (By.nil _)).mono ?_
  rintro e w8 ⟨rfl, hk8⟩
  have HQ8 := Lib.hid (HQ7.out.below hk8 (fun b hb => by rw [← HS7.out]; have := HS6.out; have := HL6.out b hb; omega))
  have HK8 := Lib.hid (HK7.out.trans (hk8.mono (by rw [← HS7.out]; have := HK6.out.size; omega)))
  clear hk8 z0 z1 z2 z3 z4 z5 z6 y0 y1 y2 y3 y4 y5 y6
  go_wp2_with fail
  refine By.upon HQ8.out ?_
  go_wp2_with fail
  go_returns
  exact ⟨by simp, HK8.out⟩

end Go.Proofs.Ytaokhgpidifedaa
