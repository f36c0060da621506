/- The walk of StaticTells. -/
import Derived.Test.YtlpdmpmfnjcelaaSta7
import Derived.Test.YtlpdmpmfnjcelaaSta4
import Derived.Deep.DeepCutAuto
namespace Go.Proofs.Ytlpdmpmfnjcelaa
open Go.RowKit Go.Deep

set_option maxHeartbeats 3200000 in
theorem walkStaticTells (w : World) (i : Int) (hi : (Lit.int .u64 i).wf = true) :
    Calls Try.prog 3 #[.int .u64 i] w fun e w' => e = .returned (.bool true) ∧ Below w.heap.size w w' := by
  obtain ⟨i0, i1⟩ := wf_u64_iff hi
  obtain ⟨I, rfl⟩ : ∃ I : Nat, i = I := ⟨i.toNat, by omega⟩
  clear hi
  go_enter Try.func3, Try.ntmps3
  go_wp2_with fail
  refine (known_any w).mono ?_
  rintro e w1 ⟨rfl, hk1⟩
  have HK1 := Lib.hid hk1
  clear hk1
  go_wp2_with fail
  have HB := Lib.hid (Blk.new w1 #[.int .u64 (I : Int), .int .u64 ((I : Int) % 128)] 22)
  have HK2 := Lib.hid (HK1.out.alloc HK1.out.size (.cells #[.int .u64 (I : Int), .int .u64 ((I : Int) % 128)] 22 (0, 0)))
  have HS2 : Hid ((w1.alloc (.cells #[.int .u64 (I : Int), .int .u64 ((I : Int) % 128)] 22 (0, 0))).heap.size = w1.heap.size + 1) := by show _ = _; simp
  generalize w1.alloc (.cells #[.int .u64 (I : Int), .int .u64 ((I : Int) % 128)] 22 (0, 0)) = w2 at *
  go_loopg [16] 2 (fun k vi wr => ∃ (j : Nat), k + j = 2 ∧ vi = .int .i64 j ∧ Below w2.heap.size w2 wr)
  case atStart => exact ⟨0, by omega, rfl, Below.refl _ _⟩
  case round =>
    obtain ⟨j, hj, rfl, hk⟩ := hrel
    have HJ := Lib.hid hj
    have HK := Lib.hid hk
    clear hj hk
    have HKR := Lib.hid (HK2.out.trans (HK.out.mono HK2.out.size))
    by_cases hj2 : j < 2
    · have hy : ∃ k : Nat, k ≤ 18446744073709551615 ∧ wr.cell? ⟨w1.heap.size, j, none⟩ = some (.int .u64 (k : Int)) := by
        have hb := (Below.keeps HK.out).blk HB.out (by rw [HS2.out]; omega)
        have hcase : j = 0 ∨ j = 1 := by omega
        rcases hcase with rfl | rfl
        · exact ⟨I, by omega, by rw [hb.cell]; rfl⟩
        · exact ⟨I % 128, by omega, by rw [hb.cell]; simp⟩
      obtain ⟨k, hk0, hc⟩ := hy
      have hj0 : (0 : Int) ≤ (j : Int) := by omega
      go_wp2_with fail
      refine (h2_any k wr hk0).mono ?_
      rintro e w3 ⟨rfl, hk3⟩
      generalize hf : h2F k = f at *
      have HF := Lib.hid hf
      clear hf hc
      obtain ⟨⟨f1, f2⟩, ok⟩ := f
      unfold FdV
      simp only
      have hA := (Blk.new w3 #[.string ⟨f1.toArray⟩, .string ⟨f2.toArray⟩] 26).alloc (.cells #[.string ⟨#[]⟩, .string ⟨#[]⟩] 26 (0, 0))
      have hB := Blk.new (w3.alloc (.cells #[.string ⟨f1.toArray⟩, .string ⟨f2.toArray⟩] 26 (0, 0))) #[.string ⟨#[]⟩, .string ⟨#[]⟩] 26
      rw [World.size_alloc] at hB
      have hk4 := ((HK.out.trans (hk3.mono HK.out.size)).alloc (by have := hk3.size; have := HK.out.size; omega) (.cells #[.string ⟨f1.toArray⟩, .string ⟨f2.toArray⟩] 26 (0, 0))).alloc (by have := hk3.size; have := HK.out.size; simp; omega) (.cells #[.string ⟨#[]⟩, .string ⟨#[]⟩] 26 (0, 0))
      have hs4 : ((w3.alloc (.cells #[.string ⟨f1.toArray⟩, .string ⟨f2.toArray⟩] 26 (0, 0))).alloc (.cells #[.string ⟨#[]⟩, .string ⟨#[]⟩] 26 (0, 0))).heap.size = w3.heap.size + 2 := by simp
      have hw3 : w2.heap.size ≤ w3.heap.size := by have := hk3.size; have := HK.out.size; omega
      have HA := Lib.hid hA
      have HBB := Lib.hid hB
      have HK4 := Lib.hid hk4
      have HS4 := Lib.hid hs4
      clear hA hB hk4 hs4 hk3
      go_upto_if 27 with fail
      generalize (w3.alloc (.cells #[.string ⟨f1.toArray⟩, .string ⟨f2.toArray⟩] 26 (0, 0))).alloc (.cells #[.string ⟨#[]⟩, .string ⟨#[]⟩] 26 (0, 0)) = w4 at *
      go_cut [8] (fun s8 wx => s8 = .bool ok ∧ Blk wx w3.heap.size #[.string ⟨f1.toArray⟩, .string ⟨f2.toArray⟩] 26 ∧ Blk wx (w3.heap.size + 1) #[.string ⟨f1.toArray⟩, .string ⟨f2.toArray⟩] 26 ∧ Below w2.heap.size w2 wx ∧ w3.heap.size + 2 ≤ wx.heap.size)
      case first =>
        by_cases hz : k = 0
        · subst hz
          have hf := HF.out
          unfold h2F at hf
          rw [if_pos rfl] at hf
          cases hf
          go_wp2_with fail
          go_meet
          exact ⟨rfl, HA.out, HBB.out, HK4.out, by rw [HS4.out]; omega⟩
        · obtain ⟨k', rfl⟩ : ∃ k', k = k' + 1 := ⟨k - 1, by omega⟩
          have hpos : (0 : Int) < ((k' + 1 : Nat) : Int) := by omega
          have hf : Hid (atF tab2 k' = ((f1, f2), ok)) := by
            show _ = _
            have h := HF.out
            unfold h2F at h
            rw [if_neg (by omega)] at h
            exact h
          go_wp2_with fail
          refine (h2s_any w4).mono ?_
          rintro e w5 ⟨a5, n5, c5, rfl, ho5, hk5⟩
          go_wp2_with fail
          refine (atr_any a5 n5 c5 tab2 k' w5 ho5.fv (by omega)).mono ?_
          rintro e w6 ⟨rfl, hk6⟩
          rw [hf.out]
          have hs45 : w3.heap.size + 2 ≤ w5.heap.size := by have := hk5.size; rw [HS4.out] at this; exact this
          have hA6 := (Below.keeps hk6).blk ((Below.keeps hk5).blk HA.out (by rw [HS4.out]; omega)) (by omega)
          have hB6 := (Below.keeps hk6).blk ((Below.keeps hk5).blk HBB.out (by rw [HS4.out]; omega)) (by omega)
          have hk7 := (HK4.out.trans (hk5.mono HK4.out.size)).trans (hk6.mono (Nat.le_trans HK4.out.size hk5.size))
          have hs6 : w3.heap.size + 2 ≤ w6.heap.size := by have := hk6.size; omega
          have HA6 := Lib.hid hA6
          have HB6 := Lib.hid hB6
          have HK7 := Lib.hid hk7
          clear hA6 hB6 hk7 ho5 hk5 hk6
          unfold FdV
          simp only
          obtain ⟨z1, z2, z3, z4, z5, z6⟩ := field_cells HB6.out (.string ⟨f1.toArray⟩) (.string ⟨f2.toArray⟩)
          go_wp2_with fail
          go_meet
          refine ⟨rfl, HA6.out.far2 (by omega) _ _, HB6.out.put2 _ _, (HK7.out.setCell (by show _ ≤ w3.heap.size + 1; omega) _).setCell (by show _ ≤ w3.heap.size + 1; omega) _, ?_⟩
          rw [World.size_setCell, World.size_setCell]
          exact hs6
      case rest =>
        obtain ⟨rfl, hA, hB, hk, hs⟩ := hcut
        have HAc := Lib.hid hA
        have HBc := Lib.hid hB
        have HKc := Lib.hid hk
        obtain ⟨a1, a2⟩ := hA.two
        obtain ⟨b1, b2⟩ := hB.two
        clear hA hB hk
        go_wp2_with fail
        refine (h3_any k wc hk0).mono ?_
        rintro e w5 ⟨rfl, hk5⟩
        generalize hg : atF tab3 k = g at *
        have HG := Lib.hid hg
        clear hg a1 a2 b1 b2
        obtain ⟨⟨g1, g2⟩, is_⟩ := g
        unfold FdV
        simp only
        have HA5 := Lib.hid ((Below.keeps hk5).blk HAc.out (by omega))
        have HB5 := Lib.hid ((Below.keeps hk5).blk HBc.out (by omega))
        have hs5 : w3.heap.size + 2 ≤ w5.heap.size := by have := hk5.size; omega
        have HK5 := Lib.hid (((HKc.out.trans (hk5.mono HKc.out.size)).setCell (p := ⟨w3.heap.size, 0, none⟩) (by show _ ≤ w3.heap.size; omega) (.string ⟨g1.toArray⟩)).setCell (p := ⟨w3.heap.size, 1, none⟩) (by show _ ≤ w3.heap.size; omega) (.string ⟨g2.toArray⟩))
        have HA6 := Lib.hid (HA5.out.put2 (.string ⟨g1.toArray⟩) (.string ⟨g2.toArray⟩))
        have HB6 := Lib.hid (HB5.out.far2 (b := w3.heap.size) (by omega) (.string ⟨g1.toArray⟩) (.string ⟨g2.toArray⟩))
        have HS6 : Hid (((w5.setCell ⟨w3.heap.size, 0, none⟩ (.string ⟨g1.toArray⟩)).setCell ⟨w3.heap.size, 1, none⟩ (.string ⟨g2.toArray⟩)).heap.size = w5.heap.size) := by show _ = _; rw [World.size_setCell, World.size_setCell]
        obtain ⟨z1, z2, z3, z4, z5, z6⟩ := field_cells HA5.out (.string ⟨g1.toArray⟩) (.string ⟨g2.toArray⟩)
        clear hk5
        go_wp2_with fail
        refine (h3s_any _).mono ?_
        clear z1 z2 z3 z4 z5 z6
        generalize (w5.setCell ⟨w3.heap.size, 0, none⟩ (.string ⟨g1.toArray⟩)).setCell ⟨w3.heap.size, 1, none⟩ (.string ⟨g2.toArray⟩) = w6 at *
        rintro e w7 ⟨a7, n7, c7, rfl, ho7, hk7⟩
        go_wp2_with fail
        refine (atr_any a7 n7 c7 tab3 k w7 ho7.fv hk0).mono ?_
        rintro e w8 ⟨rfl, hk8⟩
        rw [HG.out]
        have hs7 : w3.heap.size + 2 ≤ w7.heap.size := by have := hk7.size; rw [HS6.out] at this; omega
        have hA8 := (Below.keeps hk8).blk ((Below.keeps hk7).blk HA6.out (by rw [HS6.out]; omega)) (by omega)
        have hB8 := (Below.keeps hk8).blk ((Below.keeps hk7).blk HB6.out (by rw [HS6.out]; omega)) (by omega)
        have hk9 := (HK5.out.trans (hk7.mono HK5.out.size)).trans (hk8.mono (Nat.le_trans HK5.out.size hk7.size))
        have HK9 := Lib.hid ((hk9.setCell (p := ⟨w3.heap.size + 1, 0, none⟩) (by show _ ≤ w3.heap.size + 1; omega) (.string ⟨g1.toArray⟩)).setCell (p := ⟨w3.heap.size + 1, 1, none⟩) (by show _ ≤ w3.heap.size + 1; omega) (.string ⟨g2.toArray⟩))
        obtain ⟨x1, x2⟩ := (hA8.far2 (b := w3.heap.size + 1) (by omega) (.string ⟨g1.toArray⟩) (.string ⟨g2.toArray⟩)).two
        obtain ⟨y1, y2⟩ := (hB8.put2 (.string ⟨g1.toArray⟩) (.string ⟨g2.toArray⟩)).two
        obtain ⟨z1, z2, z3, z4, z5, z6⟩ := field_cells hB8 (.string ⟨g1.toArray⟩) (.string ⟨g2.toArray⟩)
        unfold FdV
        simp only
        clear ho7 hk7 hk8 hA8 hB8 hk9
        go_wp2_with fail
        obtain ⟨g, rfl⟩ : ∃ g, gk = g + 1 := ⟨gk - 1, by have := HJ.out; omega⟩
        go_roundg g
        case measure => omega
        case rel => exact ⟨j + 1, by have := HJ.out; omega, by go_num, HK9.out⟩
    · go_wp2_with fail
      go_returns
      exact ⟨rfl, HKR.out⟩

end Go.Proofs.Ytlpdmpmfnjcelaa
