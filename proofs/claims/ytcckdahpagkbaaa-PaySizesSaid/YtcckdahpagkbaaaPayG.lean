/- The chapter's example: known. -/
import Derived.Test.YtcckdahpagkbaaaPayF
import Derived.Lib.SlBytesConst
namespace Go.Proofs.Ytcckdahpagkbaaa
open Go.RowKit Go.Deep

theorem conv_two (w : World) (x y : Value) (g : Nat) (hg : g = w.heap.size) : (convert 28 28 (.slice (some ⟨g, 0, none⟩) 2 2)).run Try.prog (w.alloc (.cells #[x, y] 5 (0, 0))) = .ok (.slice (some ⟨g, 0, none⟩) 2 2) (w.alloc (.cells #[x, y] 5 (2, 3))) := by
  subst hg
  exact Lib.run_convert_bytes_const w 28 5 #[x, y] 2 2 Try.underlying28 Try.underlying5
theorem upon_conv {P : Program} {o : Oper} {a : Act} {K : Act → World → Prop} {Q : Exit → Act → World → Prop} {src dst : TypeId} {v u : Value} {w w' : World} (h : (convert src dst v).run P w = .ok u w') (hk : K (a.put o.dst u) w') :
    o.upon P a K Q (((convert src dst v).run P w).andThen fun a w' => .ok (.value a) w') := by rw [h]; exact hk
theorem By.mark (w : World) (xs : List UInt8) (vs : Array Value) (t : TypeId) (fr : Nat × Nat) (h : xs.length ≤ 1000) (hv : vs = (Bs xs).toArray) : By (w.alloc (.cells vs t fr)) (some ⟨w.heap.size, 0, none⟩) xs.length xs.length xs := by
  subst hv
  refine ⟨rfl, Nat.le_refl _, by unfold maxLen; omega, by simp [Bs], .inr ⟨w.heap.size, 0, rfl, by simp, fun j u hj => ?_⟩⟩
  rw [Nat.zero_add, World.cell?_alloc_mark]
  simpa using hj

theorem make3 (w : World) : (Instr.makeSlice 28 (.int .i64 3) (.int .i64 3)).run Try.prog w = .ok (.slice (some ⟨w.heap.size, 0, none⟩) 3 3) (w.alloc (.cells #[.int .u8 0, .int .u8 0, .int .u8 0] 5)) := by kernel_rfl

set_option maxHeartbeats 1600000 in
theorem known_any (w : World) : Calls Try.prog 6 #[] w fun e w' => e = .returned (.bool true) ∧ Below w.heap.size w w' := by
  have hmk := make3 w
  go_enter Try.func6, Try.ntmps6
  go_wp2_with fail
  clear hmk
  refine (read_size 3 0 1 _ 3 3 _ (by omega) (by decide +kernel) (by decide +kernel)).mono ?_
  rintro e w1 ⟨rfl, hk1⟩
  have HK1 := Lib.hid (((Below.refl w.heap.size w).alloc (Nat.le_refl _) _).trans (hk1.mono (by simp)))
  clear hk1
  unfold Py0 PyV
  have hy1 := By.mark (w1.alloc (.cells #[.slice none 0 0, .slice none 0 0, .int .u32 0, .int .u32 0, .int .u32 0] 33 (0, 0))) [97, 98] #[.int .u8 97, .int .u8 98] 5 (2, 3) (by simp) rfl
  rw [World.size_alloc] at hy1
  have HY1 := Lib.hid hy1
  clear hy1
  go_wp2_with fail
  refine upon_conv (conv_two (w1.alloc (.cells #[.slice none 0 0, .slice none 0 0, .int .u32 0, .int .u32 0, .int .u32 0] 33 (0, 0))) _ _ _ (by simp)) ?_
  go_wp2_with fail
  refine (data_two 3 _ _ 97 98 _ HY1.out).mono ?_
  rintro e w2 ⟨a2, c2, rfl, hy2, hk2⟩
  have HK2 := Lib.hid (((HK1.out.alloc HK1.out.size _).alloc (by have := HK1.out.size; simp; omega) _).trans (hk2.mono (by have := HK1.out.size; simp; omega)))
  have HY2 := Lib.hid hy2
  clear hk2 hy2
  unfold FrV
  go_wp2_with fail
  refine (read_told 0 9 3 a2 5 c2 [2, 97, 98, 0, 0] 1 2 3 w2 HY2.out (by omega) (.inl rfl) (by decide +kernel) (by decide +kernel) (by decide +kernel) (by decide +kernel) rfl (by omega) (fun _ => by omega)).mono ?_
  rintro e w3 ⟨a3, c3, rfl, hy3, _, hk3⟩
  have hy3' : By w3 a3 2 c3 [97, 98] := hy3
  have HY3 := Lib.hid (hy3'.alloc (.cells #[.slice a3 2 c3, .slice none 0 0, .int .u32 0, .int .u32 0, .int .u32 0] 33 (0, 0)))
  have HB3 := Lib.hid (Blk.new w3 #[.slice a3 2 c3, .slice none 0 0, .int .u32 0, .int .u32 0, .int .u32 0] 33)
  have HK3 := Lib.hid ((HK2.out.trans (hk3.mono HK2.out.size)).alloc (Nat.le_trans HK2.out.size hk3.size) (.cells #[.slice a3 2 c3, .slice none 0 0, .int .u32 0, .int .u32 0, .int .u32 0] 33 (0, 0)))
  have HS3 : Hid ((w3.alloc (.cells #[.slice a3 2 c3, .slice none 0 0, .int .u32 0, .int .u32 0, .int .u32 0] 33 (0, 0))).heap.size = w3.heap.size + 1) := by show _ = _; simp
  clear hk3 hy3 hy3'
  unfold PyV
  go_wp2_with fail
  refine (read_zero 6 0 1 none 0 0 _ (by decide +kernel)).mono ?_
  rintro e w4 ⟨rfl, hk4⟩
  have hs34 : w3.heap.size + 1 ≤ w4.heap.size := by have := hk4.size; rw [HS3.out] at this; exact this
  have HB4 := Lib.hid ((((Below.keeps hk4).blk HB3.out (by rw [HS3.out]; omega)).alloc (.cells #[.slice none 0 0, .slice none 0 0, .int .u32 0, .int .u32 0, .int .u32 0] 33 (0, 0))).alloc (.cells #[.int .u64 4, .int .u64 5] 42 (0, 0)))
  have HY4 := Lib.hid (((HY3.out.grow hk4).alloc (.cells #[.slice none 0 0, .slice none 0 0, .int .u32 0, .int .u32 0, .int .u32 0] 33 (0, 0))).alloc (.cells #[.int .u64 4, .int .u64 5] 42 (0, 0)))
  have HK4 := Lib.hid (((HK3.out.trans (hk4.mono HK3.out.size)).alloc (Nat.le_trans HK3.out.size hk4.size) (.cells #[.slice none 0 0, .slice none 0 0, .int .u32 0, .int .u32 0, .int .u32 0] 33 (0, 0))).alloc (by have := Nat.le_trans HK3.out.size hk4.size; simp; omega) (.cells #[.int .u64 4, .int .u64 5] 42 (0, 0)))
  have hbs := Blk.new (w4.alloc (.cells #[.slice none 0 0, .slice none 0 0, .int .u32 0, .int .u32 0, .int .u32 0] 33 (0, 0))) #[.int .u64 4, .int .u64 5] 42
  rw [World.size_alloc] at hbs
  have HBS := Lib.hid hbs
  have HS4 : Hid (((w4.alloc (.cells #[.slice none 0 0, .slice none 0 0, .int .u32 0, .int .u32 0, .int .u32 0] 33 (0, 0))).alloc (.cells #[.int .u64 4, .int .u64 5] 42 (0, 0))).heap.size = w4.heap.size + 2) := by show _ = _; simp
  clear hk4 hbs
  unfold Py0 PyV
  go_wp2_with fail
  refine (settings_one _ _ HBS.out).mono ?_
  rintro e w5 ⟨a5, c5, rfl, hk5⟩
  have hs45 : w4.heap.size + 2 ≤ w5.heap.size := by have := hk5.size; rw [HS4.out] at this; exact this
  have HB5 := Lib.hid (((Below.keeps hk5).blk HB4.out (by rw [HS4.out]; omega)).alloc (.cells #[.int .u8 4, .int .u8 0, .int .u32 0, .slice a5 6 c5] 30 (0, 0)))
  have HY5 := Lib.hid ((HY4.out.grow hk5).alloc (.cells #[.int .u8 4, .int .u8 0, .int .u32 0, .slice a5 6 c5] 30 (0, 0)))
  have HK5 := Lib.hid ((HK4.out.trans (hk5.mono HK4.out.size)).alloc (Nat.le_trans HK4.out.size hk5.size) (.cells #[.int .u8 4, .int .u8 0, .int .u32 0, .slice a5 6 c5] 30 (0, 0)))
  have q0 : (w5.alloc (.cells #[.int .u8 4, .int .u8 0, .int .u32 0, .slice a5 6 c5] 30 (0, 0))).cell? ⟨w3.heap.size, 0, none⟩ = some (.slice a3 2 c3) := HB5.out.cell 0
  have hv1 : codeV 3 2 = 3 := by decide +kernel
  have hv2 : codeV 8 3 = 270 := by decide +kernel
  have HV1 := Lib.hid hv1
  have HV2 := Lib.hid hv2
  clear hk5 hv1 hv2
  unfold FrV
  go_wp2_with fail
  refine By.upon HY5.out ?_
  go_wp2_with fail
  refine (code_any 3 2 _ (by decide)).mono ?_
  rintro e w6 ⟨rfl, hk6⟩
  rw [HV1.out]
  go_wp2_with fail
  refine (code_any 8 3 _ (by decide)).mono ?_
  rintro e w7 ⟨rfl, hk7⟩
  rw [HV2.out]
  have HK7 := Lib.hid ((HK5.out.trans (hk6.mono HK5.out.size)).trans (hk7.mono (Nat.le_trans HK5.out.size hk6.size)))
  clear hk6 hk7
  go_wp2_with fail
  go_returns
  exact ⟨rfl, HK7.out⟩

end Go.Proofs.Ytcckdahpagkbaaa
