/- The walk of StaticAll. -/
import Derived.Test.YtlpdmpmfnjcelaaSta7
import Derived.Test.YtlpdmpmfnjcelaaSta4
import Derived.IntWalk
import Derived.Test.YtlpdmpmfnjcelaaHeld
import Derived.Deep.DeepMust
namespace Go.Proofs.Ytlpdmpmfnjcelaa
open Go.RowKit Go.Deep

theorem all2 : ∀ k : Fin 61, findH2 (tab2[k.val]'(by rw [tab2_len]; exact k.isLt)) = ((k.val : Int) + 1, true, true) := by decide +kernel
theorem all3 : ∀ k : Fin 99, findS tab3 (tab3[k.val]'(by rw [tab3_len]; exact k.isLt)) = ((k.val : Int), true, true) := by decide +kernel

set_option maxRecDepth 100000 in
set_option maxHeartbeats 6400000 in
theorem walkStaticAll (w : World) (i : Int) (hi : (Lit.int .u8 i).wf = true) :
    Calls Try.prog 5 #[.int .u8 i] w fun e w' => e = .returned (.bool true) ∧ Below w.heap.size w w' := by
  obtain ⟨i0, i1⟩ := wf_u8_iff hi
  obtain ⟨I, rfl⟩ : ∃ I : Nat, i = I := ⟨i.toNat, by omega⟩
  clear hi
  obtain ⟨k, hk⟩ : ∃ k : Nat, (I : Int) % 61 = k := ⟨I % 61, by omega⟩
  obtain ⟨m, hm⟩ : ∃ m : Nat, (I : Int) % 99 = m := ⟨I % 99, by omega⟩
  have hk61 : k < 61 := by omega
  have hm99 : m < 99 := by omega
  have hkl : k < tab2.length := by rw [tab2_len]; exact hk61
  have hml : m < tab3.length := by rw [tab3_len]; exact hm99
  have HF2 : Hid (h2F (k + 1) = (tab2[k], true)) := by show _ = _; unfold h2F; rw [if_neg (by omega)]; exact atF_some hkl
  have HF3 : Hid (atF tab3 m = (tab3[m], true)) := atF_some hml
  have HA2 : Hid (findH2 tab2[k] = ((k : Int) + 1, true, true)) := all2 ⟨k, hk61⟩
  have HA3 : Hid (findS tab3 tab3[m] = ((m : Int), true, true)) := all3 ⟨m, hm99⟩
  have HN2 : Hid ((h2F (62 + I)).2 = false) := by show _ = _; unfold h2F; rw [if_neg (by omega), atF_none (by rw [tab2_len]; omega)]
  have HN3 : Hid ((atF tab3 (99 + I)).2 = false) := by show _ = _; rw [atF_none (by rw [tab3_len]; omega)]
  go_enter Try.func5, Try.ntmps5
  go_wp2_with fail
  refine (known_any w).mono ?_
  rintro e w1 ⟨rfl, hk1⟩
  have HK1 := Lib.hid hk1
  clear hk1
  go_wp2_with fail
  have hc2 := h2_any (k + 1) w1 (by omega)
  rw [show ((k + 1 : Nat) : Int) = (k : Int) + 1 by omega] at hc2
  refine hc2.mono ?_
  clear hc2
  rintro e w2 ⟨rfl, hk2⟩
  rw [HF2.out]
  generalize hf : tab2[k] = f at *
  have HFE := Lib.hid hf
  clear hf
  obtain ⟨f1, f2⟩ := f
  unfold FdV
  simp only
  have HBA := Lib.hid (Blk.new w2 #[.string ⟨f1.toArray⟩, .string ⟨f2.toArray⟩] 26)
  have HK2 := Lib.hid ((HK1.out.trans (hk2.mono HK1.out.size)).alloc (Nat.le_trans HK1.out.size hk2.size) (.cells #[.string ⟨f1.toArray⟩, .string ⟨f2.toArray⟩] 26 (0, 0)))
  have hs2 : (w2.alloc (.cells #[.string ⟨f1.toArray⟩, .string ⟨f2.toArray⟩] 26 (0, 0))).heap.size = w2.heap.size + 1 := by simp
  clear hk2
  go_wp2_with fail
  refine (h3_any m _ (by omega)).mono ?_
  rintro e w3 ⟨rfl, hk3⟩
  rw [HF3.out]
  generalize hg : tab3[m] = g at *
  have HGE := Lib.hid hg
  clear hg
  obtain ⟨g1, g2⟩ := g
  unfold FdV
  simp only
  have hs23 : w2.heap.size + 1 ≤ w3.heap.size := by have := hk3.size; rw [hs2] at this; exact this
  have HBA3 := Lib.hid ((Below.keeps hk3).blk HBA.out (by rw [hs2]; omega))
  have HBB := Lib.hid (Blk.new w3 #[.string ⟨g1.toArray⟩, .string ⟨g2.toArray⟩] 26)
  have HBA4 := Lib.hid (HBA3.out.alloc (.cells #[.string ⟨g1.toArray⟩, .string ⟨g2.toArray⟩] 26 (0, 0)))
  have HK3 := Lib.hid ((HK2.out.trans (hk3.mono HK2.out.size)).alloc (Nat.le_trans HK2.out.size hk3.size) (.cells #[.string ⟨g1.toArray⟩, .string ⟨g2.toArray⟩] 26 (0, 0)))
  have HS3 : Hid ((w3.alloc (.cells #[.string ⟨g1.toArray⟩, .string ⟨g2.toArray⟩] 26 (0, 0))).heap.size = w3.heap.size + 1) := by show _ = _; simp
  obtain ⟨a1, a2⟩ := HBA4.out.two
  clear hk3 hs2
  go_wp2_with fail
  refine (findh2_any (f1, f2) _).mono ?_
  rintro e w4 ⟨rfl, hk4⟩
  rw [HA2.out]
  have hs4 : w3.heap.size + 1 ≤ w4.heap.size := by have := hk4.size; rw [HS3.out] at this; exact this
  have HA4 := Lib.hid ((Below.keeps hk4).blk HBA4.out (by rw [HS3.out]; omega))
  have HB4 := Lib.hid ((Below.keeps hk4).blk HBB.out (by rw [HS3.out]; omega))
  have HK4 := Lib.hid (HK3.out.trans (hk4.mono HK3.out.size))
  obtain ⟨b1, b2⟩ := HB4.out.two
  clear hk4 a1 a2
  go_wp2_with fail
  refine (findh3_any (g1, g2) _).mono ?_
  rintro e w5 ⟨rfl, hk5⟩
  rw [HA3.out]
  have hs5 : w3.heap.size + 1 ≤ w5.heap.size := Nat.le_trans hs4 hk5.size
  have HA5 := Lib.hid ((Below.keeps hk5).blk HA4.out (by omega))
  have HB5 := Lib.hid ((Below.keeps hk5).blk HB4.out (by omega))
  have HK5 := Lib.hid (HK4.out.trans (hk5.mono HK4.out.size))
  clear hk5 b1 b2
  go_wp2_with fail
  have hc2 := h2_any (62 + I) w5 (by omega)
  rw [show ((62 + I : Nat) : Int) = 62 + (I : Int) by omega] at hc2
  refine hc2.mono ?_
  clear hc2
  rintro e w6 ⟨rfl, hk6⟩
  rw [HN2.out]
  generalize (h2F (62 + I)).1 = x
  obtain ⟨x1, x2⟩ := x
  unfold FdV
  simp only
  have hs6 : w3.heap.size + 1 ≤ w6.heap.size := Nat.le_trans hs5 hk6.size
  have HA6 := Lib.hid (((Below.keeps hk6).blk HA5.out (by omega)).alloc (.cells #[.string ⟨x1.toArray⟩, .string ⟨x2.toArray⟩] 26 (0, 0)))
  have HB6 := Lib.hid (((Below.keeps hk6).blk HB5.out (by omega)).alloc (.cells #[.string ⟨x1.toArray⟩, .string ⟨x2.toArray⟩] 26 (0, 0)))
  have HK6 := Lib.hid ((HK5.out.trans (hk6.mono HK5.out.size)).alloc (Nat.le_trans HK5.out.size hk6.size) (.cells #[.string ⟨x1.toArray⟩, .string ⟨x2.toArray⟩] 26 (0, 0)))
  have HS6 : Hid ((w6.alloc (.cells #[.string ⟨x1.toArray⟩, .string ⟨x2.toArray⟩] 26 (0, 0))).heap.size = w6.heap.size + 1) := by show _ = _; simp
  clear hk6
  go_wp2_with fail
  have hc3 := h3_any (99 + I) (w6.alloc (.cells #[.string ⟨x1.toArray⟩, .string ⟨x2.toArray⟩] 26 (0, 0))) (by omega)
  rw [show ((99 + I : Nat) : Int) = 99 + (I : Int) by omega] at hc3
  refine hc3.mono ?_
  clear hc3
  rintro e w7 ⟨rfl, hk7⟩
  rw [HN3.out]
  generalize (atF tab3 (99 + I)).1 = y
  obtain ⟨y1, y2⟩ := y
  unfold FdV
  simp only
  have hs7 : w3.heap.size + 1 ≤ w7.heap.size := by have := hk7.size; rw [HS6.out] at this; omega
  have HA7 := Lib.hid (((Below.keeps hk7).blk HA6.out (by rw [HS6.out]; omega)).alloc (.cells #[.string ⟨y1.toArray⟩, .string ⟨y2.toArray⟩] 26 (0, 0)))
  have HB7 := Lib.hid (((Below.keeps hk7).blk HB6.out (by rw [HS6.out]; omega)).alloc (.cells #[.string ⟨y1.toArray⟩, .string ⟨y2.toArray⟩] 26 (0, 0)))
  have HK7 := Lib.hid ((HK6.out.trans (hk7.mono HK6.out.size)).alloc (Nat.le_trans HK6.out.size hk7.size) (.cells #[.string ⟨y1.toArray⟩, .string ⟨y2.toArray⟩] 26 (0, 0)))
  have HS7 : Hid (w3.heap.size + 1 ≤ (w7.alloc (.cells #[.string ⟨y1.toArray⟩, .string ⟨y2.toArray⟩] 26 (0, 0))).heap.size) := by show _ ≤ _; simp; omega
  clear hk7
  go_wp2_with fail
  generalize w7.alloc (.cells #[.string ⟨y1.toArray⟩, .string ⟨y2.toArray⟩] 26 (0, 0)) = w8 at *
  have a1 : w8.drew.cell? ⟨w2.heap.size, 0, none⟩ = some (.string ⟨f1.toArray⟩) := HA7.out.two.1
  have a2 : w8.drew.cell? ⟨w2.heap.size, 1, none⟩ = some (.string ⟨f2.toArray⟩) := HA7.out.two.2
  have a3 : w8.drew.cell? ⟨w3.heap.size, 0, none⟩ = some (.string ⟨g1.toArray⟩) := HB7.out.two.1
  have a4 : w8.drew.cell? ⟨w3.heap.size, 1, none⟩ = some (.string ⟨g2.toArray⟩) := HB7.out.two.2
  have hsd : w3.heap.size + 1 ≤ w8.drew.heap.size := HS7.out
  have HAd : Hid (Blk w8.drew w2.heap.size #[.string ⟨f1.toArray⟩, .string ⟨f2.toArray⟩] 26) := HA7.out
  have HBd : Hid (Blk w8.drew w3.heap.size #[.string ⟨g1.toArray⟩, .string ⟨g2.toArray⟩] 26) := HB7.out
  have HKd : Hid (Below w.heap.size w w8.drew) := HK7.out.drew
  have hw1 : IntKind.u64.wrap ((k : Int) + 1 - 1) = (k : Int) := by rw [IntKind.wrap_u64]; omega
  have hk0 : (0 : Int) ≤ (k : Int) := by omega
  have hm0 : (0 : Int) ≤ (m : Int) := by omega
  clear hk hm HF2 HF3 HA2 HA3 HN2 HN3 HBA HK2 HBA3 HBB HBA4 HK3 HS3 HA4 HB4 HK4 HA5 HB5 HK5 HA6 HB6 HK6 HS6 HA7 HB7 HK7 HS7 HK1 hs4 hs5 hs6 hs7 i0 i1
  have hkz : (k : Int) < 61 := by omega
  have hmz : (m : Int) < 99 := by omega
  refine wp_region_held (S := fun w' => w'.cell? ⟨w2.heap.size, 0, none⟩ = some (.string ⟨f1.toArray⟩) ∧ w'.cell? ⟨w2.heap.size, 1, none⟩ = some (.string ⟨f2.toArray⟩) ∧ w'.cell? ⟨w3.heap.size, 0, none⟩ = some (.string ⟨g1.toArray⟩) ∧ w'.cell? ⟨w3.heap.size, 1, none⟩ = some (.string ⟨g2.toArray⟩)) (by kernel_rfl) ?_
  change wpAnyH _ _ _ _ _ _ _ _ (World.drew _)
  have hw2 : IntKind.u64.wrap (k : Int) = (k : Int) := by rw [IntKind.wrap_u64]; omega
  have hw3 : IntKind.u64.wrap (m : Int) = (m : Int) := by rw [IntKind.wrap_u64]; omega
  have hS := And.intro a1 (And.intro a2 (And.intro a3 a4))
  refine wpAnyH_take (i := 0) (v := ?_) rfl (by kernel_rfl) (by kernel_rfl) (by kernel_rfl) (fun _ _ _ h => h) (Or.inl ⟨by kernel_rfl, ?_⟩) hS ?_
  rotate_left
  · intro wz ⟨_, _, _, _⟩; go_simp; try with_reducible rfl
  refine wpAnyH_take (i := 1) (v := ?_) rfl (by kernel_rfl) (by kernel_rfl) (by kernel_rfl) (fun _ _ _ h => h) (Or.inl ⟨by kernel_rfl, ?_⟩) hS ?_
  rotate_left
  · intro wz ⟨_, _, _, _⟩; go_simp; try with_reducible rfl
  refine wpAnyH_take (i := 2) (v := ?_) rfl (by kernel_rfl) (by kernel_rfl) (by kernel_rfl) (fun _ _ _ h => h) (Or.inl ⟨by kernel_rfl, ?_⟩) hS ?_
  rotate_left
  · intro wz ⟨_, _, _, _⟩; go_simp; try with_reducible rfl
  refine wpAnyH_take (i := 3) (v := ?_) rfl (by kernel_rfl) (by kernel_rfl) (by kernel_rfl) (fun _ _ _ h => h) (Or.inl ⟨by kernel_rfl, ?_⟩) hS ?_
  rotate_left
  · intro wz ⟨_, _, _, _⟩; go_simp; try with_reducible rfl
  refine wpAnyH_take (i := 4) (v := ?_) rfl (by kernel_rfl) (by kernel_rfl) (by kernel_rfl) (fun _ _ _ h => h) (Or.inl ⟨by kernel_rfl, ?_⟩) hS ?_
  rotate_left
  · intro wz ⟨_, _, _, _⟩; go_simp; try with_reducible rfl
  refine wpAnyH_take (i := 5) (v := ?_) rfl (by kernel_rfl) (by kernel_rfl) (by kernel_rfl) (fun _ _ _ h => h) (Or.inl ⟨by kernel_rfl, ?_⟩) hS ?_
  rotate_left
  · intro wz ⟨_, _, _, _⟩; go_simp; try with_reducible rfl
  refine wpAnyH_take (i := 6) (v := ?_) rfl (by kernel_rfl) (by kernel_rfl) (by kernel_rfl) (fun _ _ _ h => h) (Or.inl ⟨by kernel_rfl, ?_⟩) hS ?_
  rotate_left
  · intro wz ⟨_, _, _, _⟩; go_simp; try with_reducible rfl
  refine wpAnyH_take (i := 7) (v := ?_) rfl (by kernel_rfl) (by kernel_rfl) (by kernel_rfl) (fun _ _ _ h => h) (Or.inl ⟨by kernel_rfl, ?_⟩) hS ?_
  rotate_left
  · intro wz ⟨_, _, _, _⟩; go_simp; try with_reducible rfl
  refine wpAnyH_take (i := 8) (v := ?_) rfl (by kernel_rfl) (by kernel_rfl) (by kernel_rfl) (fun _ _ _ h => h) (Or.inl ⟨by kernel_rfl, ?_⟩) hS ?_
  rotate_left
  · intro wz ⟨_, _, _, _⟩; go_simp; try with_reducible rfl
  refine wpAnyH_take (i := 9) (v := ?_) rfl (by kernel_rfl) (by kernel_rfl) (by kernel_rfl) (fun _ _ _ h => h) (Or.inl ⟨by kernel_rfl, ?_⟩) hS ?_
  rotate_left
  · intro wz ⟨_, _, _, _⟩; go_simp; try with_reducible rfl
  refine wpAnyH_take (i := 10) (v := ?_) rfl (by kernel_rfl) (by kernel_rfl) (by kernel_rfl) (fun _ _ _ h => h) (Or.inl ⟨by kernel_rfl, ?_⟩) hS ?_
  rotate_left
  · intro wz ⟨_, _, _, _⟩; go_simp; try with_reducible rfl
  refine wpAnyH_take (i := 11) (v := ?_) rfl (by kernel_rfl) (by kernel_rfl) (by kernel_rfl) (fun _ _ _ h => h) (Or.inl ⟨by kernel_rfl, ?_⟩) hS ?_
  rotate_left
  · intro wz ⟨_, _, _, _⟩; go_simp; try with_reducible rfl
  refine wpAnyH_take (i := 12) (v := ?_) rfl (by kernel_rfl) (by kernel_rfl) (by kernel_rfl) (fun _ _ _ h => h) (Or.inl ⟨by kernel_rfl, ?_⟩) hS ?_
  rotate_left
  · intro wz ⟨_, _, _, _⟩; go_simp; try with_reducible rfl
  refine wpAnyH_take (i := 13) (v := ?_) rfl (by kernel_rfl) (by kernel_rfl) (by kernel_rfl) (fun _ _ _ h => h) (Or.inl ⟨by kernel_rfl, ?_⟩) hS ?_
  rotate_left
  · intro wz ⟨_, _, _, _⟩; go_simp; try with_reducible rfl
  refine wpAnyH_take (i := 14) (v := ?_) rfl (by kernel_rfl) (by kernel_rfl) (by kernel_rfl) (fun _ _ _ h => h) (Or.inl ⟨by kernel_rfl, ?_⟩) hS ?_
  rotate_left
  · intro wz ⟨_, _, _, _⟩; go_simp; try with_reducible rfl
  refine wpAnyH_take (i := 15) (v := ?_) rfl (by kernel_rfl) (by kernel_rfl) (by kernel_rfl) (fun _ _ _ h => h) (Or.inl ⟨by kernel_rfl, ?_⟩) hS ?_
  rotate_left
  · intro wz ⟨_, _, _, _⟩; go_simp; try with_reducible rfl
  refine wpAnyH_take (i := 16) (v := ?_) rfl (by kernel_rfl) (by kernel_rfl) (by kernel_rfl) (fun _ _ _ h => h) (Or.inl ⟨by kernel_rfl, ?_⟩) hS ?_
  rotate_left
  · intro wz ⟨_, _, _, _⟩; go_simp; try with_reducible rfl
  refine wpAnyH_take (i := 17) (v := ?_) rfl (by kernel_rfl) (by kernel_rfl) (by kernel_rfl) (fun _ _ _ h => h) (Or.inl ⟨by kernel_rfl, ?_⟩) hS ?_
  rotate_left
  · intro wz ⟨_, _, _, _⟩; go_simp; try with_reducible rfl
  refine wpAnyH_take (i := 18) (v := ?_) rfl (by kernel_rfl) (by kernel_rfl) (by kernel_rfl) (fun _ _ _ h => h) (Or.inl ⟨by kernel_rfl, ?_⟩) hS ?_
  rotate_left
  · intro wz ⟨_, _, _, _⟩; go_simp; try with_reducible rfl
  refine wpAnyH_take (i := 19) (v := ?_) rfl (by kernel_rfl) (by kernel_rfl) (by kernel_rfl) (fun _ _ _ h => h) (Or.inl ⟨by kernel_rfl, ?_⟩) hS ?_
  rotate_left
  · intro wz ⟨_, _, _, _⟩; go_simp; try with_reducible rfl
  refine wpAnyH_take (i := 20) (v := ?_) rfl (by kernel_rfl) (by kernel_rfl) (by kernel_rfl) (fun _ _ _ h => h) (Or.inl ⟨by kernel_rfl, ?_⟩) hS ?_
  rotate_left
  · intro wz ⟨_, _, _, _⟩; go_simp; try with_reducible rfl
  refine wpAnyH_take (i := 21) (v := ?_) rfl (by kernel_rfl) (by kernel_rfl) (by kernel_rfl) (fun _ _ _ h => h) (Or.inl ⟨by kernel_rfl, ?_⟩) hS ?_
  rotate_left
  · intro wz ⟨_, _, _, _⟩; go_simp; try with_reducible rfl
  refine wpAnyH_take (i := 22) (v := ?_) rfl (by kernel_rfl) (by kernel_rfl) (by kernel_rfl) (fun _ _ _ h => h) (Or.inl ⟨by kernel_rfl, ?_⟩) hS ?_
  rotate_left
  · intro wz ⟨_, _, _, _⟩; go_simp; try with_reducible rfl
  refine wpAnyH_take (i := 23) (v := ?_) rfl (by kernel_rfl) (by kernel_rfl) (by kernel_rfl) (fun _ _ _ h => h) (Or.inl ⟨by kernel_rfl, ?_⟩) hS ?_
  rotate_left
  · intro wz ⟨_, _, _, _⟩; go_simp; try with_reducible rfl
  refine wpAnyH_take (i := 24) (v := ?_) rfl (by kernel_rfl) (by kernel_rfl) (by kernel_rfl) (fun _ _ _ h => h) (Or.inl ⟨by kernel_rfl, ?_⟩) hS ?_
  rotate_left
  · intro wz ⟨_, _, _, _⟩; go_simp; try with_reducible rfl
  refine wpAnyH_take (i := 25) (v := ?_) rfl (by kernel_rfl) (by kernel_rfl) (by kernel_rfl) (fun _ _ _ h => h) (Or.inl ⟨by kernel_rfl, ?_⟩) hS ?_
  rotate_left
  · intro wz ⟨_, _, _, _⟩; go_simp; try with_reducible rfl
  refine wpAnyH_take (i := 26) (v := ?_) rfl (by kernel_rfl) (by kernel_rfl) (by kernel_rfl) (fun _ _ _ h => h) (Or.inl ⟨by kernel_rfl, ?_⟩) hS ?_
  rotate_left
  · intro wz ⟨_, _, _, _⟩; go_simp; try with_reducible rfl
  refine wpAnyH_take (i := 27) (v := ?_) rfl (by kernel_rfl) (by kernel_rfl) (by kernel_rfl) (fun _ _ _ h => h) (Or.inl ⟨by kernel_rfl, ?_⟩) hS ?_
  rotate_left
  · intro wz ⟨_, _, _, _⟩; go_simp; try with_reducible rfl
  refine wpAnyH_take (i := 28) (v := ?_) rfl (by kernel_rfl) (by kernel_rfl) (by kernel_rfl) (fun _ _ _ h => h) (Or.inl ⟨by kernel_rfl, ?_⟩) hS ?_
  rotate_left
  · intro wz ⟨_, _, _, _⟩; go_simp; try with_reducible rfl
  refine wpAnyH_take (i := 29) (v := ?_) rfl (by kernel_rfl) (by kernel_rfl) (by kernel_rfl) (fun _ _ _ h => h) (Or.inl ⟨by kernel_rfl, ?_⟩) hS ?_
  rotate_left
  · intro wz ⟨_, _, _, _⟩; go_simp; try with_reducible rfl
  refine wpAnyH_take (i := 31) (v := ?_) rfl (by kernel_rfl) (by kernel_rfl) (by kernel_rfl) (fun _ _ _ h => h) (Or.inl ⟨by kernel_rfl, ?_⟩) hS ?_
  rotate_left
  · intro wz ⟨_, _, _, _⟩; go_simp; try with_reducible rfl
  refine wpAnyH_take (i := 32) (v := ?_) rfl (by kernel_rfl) (by kernel_rfl) (by kernel_rfl) (fun _ _ _ h => h) (Or.inl ⟨by kernel_rfl, ?_⟩) hS ?_
  rotate_left
  · intro wz ⟨_, _, _, _⟩; go_simp; try with_reducible rfl
  clear hS a1 a2 a3 a4
  refine held_call (i := 30) 9 #[] rfl (by kernel_rfl) (by kernel_rfl) (by kernel_rfl) ?_
  refine (h2s_any _).mono ?_
  rintro e w9 ⟨a9, n9, c9, rfl, ho9, hk9⟩
  have hn9 : n9 = 61 := ho9.1.trans tab2_len
  subst hn9
  obtain ⟨b9, o9, rfl, hb9, hc9⟩ := ho9.fv.get (by omega)
  have d1 : w9.cell? ⟨b9, o9 + k * 2, none⟩ = some (.string ⟨f1.toArray⟩) := (hc9 k hkl).1.trans (by rw [HFE.out]; rfl)
  have d2 : w9.cell? ⟨b9, o9 + k * 2 + 1, none⟩ = some (.string ⟨f2.toArray⟩) := (hc9 k hkl).2.trans (by rw [HFE.out]; rfl)
  have HA9 := Lib.hid ((Below.keeps hk9).blk HAd.out (by omega))
  have HB9 := Lib.hid ((Below.keeps hk9).blk HBd.out (by omega))
  have HK9 := Lib.hid (HKd.out.trans (hk9.mono HKd.out.size))
  have hs9 : w3.heap.size + 1 ≤ w9.heap.size := Nat.le_trans hsd hk9.size
  have hS := And.intro HA9.out.two.1 (And.intro HA9.out.two.2 (And.intro HB9.out.two.1 HB9.out.two.2))
  clear hc9 ho9 hk9
  refine ⟨_, rfl, hS, ?_⟩
  refine wpAnyH_take (i := 33) (v := ?_) rfl (by kernel_rfl) (by kernel_rfl) (by kernel_rfl) (fun _ _ _ h => h) (Or.inl ⟨by kernel_rfl, ?_⟩) hS ?_
  rotate_left
  · intro wz ⟨_, _, _, _⟩; go_simp; try with_reducible rfl
  refine held_val (i := 34) (.agg #[.string ⟨f1.toArray⟩, .string ⟨f2.toArray⟩]) rfl (by kernel_rfl) (by kernel_rfl) ?_ hS ?_
  · go_simp; try with_reducible rfl
  clear d1 d2
  refine wpAnyH_take (i := 35) (v := ?_) rfl (by kernel_rfl) (by kernel_rfl) (by kernel_rfl) (fun _ _ _ h => h) (Or.inl ⟨by kernel_rfl, ?_⟩) hS ?_
  rotate_left
  · intro wz ⟨_, _, _, _⟩; go_simp; try with_reducible rfl
  refine wpAnyH_take (i := 36) (v := ?_) rfl (by kernel_rfl) (by kernel_rfl) (by kernel_rfl) (fun _ _ _ h => h) (Or.inl ⟨by kernel_rfl, ?_⟩) hS ?_
  rotate_left
  · intro wz ⟨_, _, _, _⟩; go_simp; try with_reducible rfl
  refine wpAnyH_take (i := 37) (v := ?_) rfl (by kernel_rfl) (by kernel_rfl) (by kernel_rfl) (fun _ _ _ h => h) (Or.inl ⟨by kernel_rfl, ?_⟩) hS ?_
  rotate_left
  · intro wz ⟨_, _, _, _⟩; go_simp; try with_reducible rfl
  refine wpAnyH_take (i := 38) (v := ?_) rfl (by kernel_rfl) (by kernel_rfl) (by kernel_rfl) (fun _ _ _ h => h) (Or.inl ⟨by kernel_rfl, ?_⟩) hS ?_
  rotate_left
  · intro wz ⟨_, _, _, _⟩; go_simp; try with_reducible rfl
  refine wpAnyH_take (i := 40) (v := ?_) rfl (by kernel_rfl) (by kernel_rfl) (by kernel_rfl) (fun _ _ _ h => h) (Or.inl ⟨by kernel_rfl, ?_⟩) hS ?_
  rotate_left
  · intro wz ⟨_, _, _, _⟩; go_simp; try with_reducible rfl
  clear hS
  refine held_call (i := 39) 11 #[] rfl (by kernel_rfl) (by kernel_rfl) (by kernel_rfl) ?_
  refine (h3s_any _).mono ?_
  rintro e w10 ⟨a10, n10, c10, rfl, ho10, hk10⟩
  have hn10 : n10 = 99 := ho10.1.trans tab3_len
  subst hn10
  obtain ⟨b10, o10, rfl, hb10, hc10⟩ := ho10.fv.get (by omega)
  have e1 : w10.cell? ⟨b10, o10 + m * 2, none⟩ = some (.string ⟨g1.toArray⟩) := (hc10 m hml).1.trans (by rw [HGE.out]; rfl)
  have e2 : w10.cell? ⟨b10, o10 + m * 2 + 1, none⟩ = some (.string ⟨g2.toArray⟩) := (hc10 m hml).2.trans (by rw [HGE.out]; rfl)
  have HA10 := Lib.hid ((Below.keeps hk10).blk HA9.out (by omega))
  have HB10 := Lib.hid ((Below.keeps hk10).blk HB9.out (by omega))
  have HK10 := Lib.hid (HK9.out.trans (hk10.mono HK9.out.size))
  have hS := And.intro HA10.out.two.1 (And.intro HA10.out.two.2 (And.intro HB10.out.two.1 HB10.out.two.2))
  clear hc10 ho10 hk10
  refine ⟨_, rfl, hS, ?_⟩
  refine wpAnyH_take (i := 41) (v := ?_) rfl (by kernel_rfl) (by kernel_rfl) (by kernel_rfl) (fun _ _ _ h => h) (Or.inl ⟨by kernel_rfl, ?_⟩) hS ?_
  rotate_left
  · intro wz ⟨_, _, _, _⟩; go_simp; try with_reducible rfl
  refine held_val (i := 42) (.agg #[.string ⟨g1.toArray⟩, .string ⟨g2.toArray⟩]) rfl (by kernel_rfl) (by kernel_rfl) ?_ hS ?_
  · go_simp; try with_reducible rfl
  clear e1 e2
  refine wpAnyH_take (i := 43) (v := ?_) rfl (by kernel_rfl) (by kernel_rfl) (by kernel_rfl) (fun _ _ _ h => h) (Or.inl ⟨by kernel_rfl, ?_⟩) hS ?_
  rotate_left
  · intro wz ⟨_, _, _, _⟩; go_simp; try with_reducible rfl
  refine wpAnyH_take (i := 44) (v := ?_) rfl (by kernel_rfl) (by kernel_rfl) (by kernel_rfl) (fun _ _ _ h => h) (Or.inl ⟨by kernel_rfl, ?_⟩) hS ?_
  rotate_left
  · intro wz ⟨_, _, _, _⟩; go_simp; try with_reducible rfl
  refine wpAnyH_take (i := 45) (v := ?_) rfl (by kernel_rfl) (by kernel_rfl) (by kernel_rfl) (fun _ _ _ h => h) (Or.inl ⟨by kernel_rfl, ?_⟩) hS ?_
  rotate_left
  · intro wz ⟨_, _, _, _⟩; go_simp; try with_reducible rfl
  refine wpAnyH_done (by kernel_rfl) ?_ _
  go_wp2_with fail
  go_returns
  exact ⟨by kernel_rfl, HK10.out⟩

end Go.Proofs.Ytlpdmpmfnjcelaa
