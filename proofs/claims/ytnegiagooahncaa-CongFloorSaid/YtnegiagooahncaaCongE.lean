/- The walks of the laws of layer 23 over numbers. -/
import Derived.Test.YtnegiagooahncaaCongD
import Derived.Test.YtnegiagooahncaaV
namespace Go.Proofs.Ytnegiagooahncaa
open Go.RowKit

set_option maxHeartbeats 400000 in
theorem walkCongPto (w : World) (a0 : Int) (w0 : (Lit.int .u64 a0).wf = true) (a1 : Int) (w1 : (Lit.int .u64 a1).wf = true) (a2 : Int) (w2 : (Lit.int .i64 a2).wf = true) :
    Calls Try.prog 3 #[.int .u64 a0, .int .u64 a1, .int .i64 a2] w fun e w' => e = .returned (.bool true) ∧ Below w.heap.size w w' := by
  obtain ⟨h0, _⟩ := wf_u64_iff w0
  obtain ⟨h1, _⟩ := wf_u64_iff w1
  have hle := pto_le a0 a1 a2
  clear w0 w1 w2
  go_enter Try.func3, Try.ntmps3
  go_wp2_with fail
  refine (known_any w).mono ?_
  rintro e w1 ⟨rfl, hk⟩
  have HK := Lib.hid hk
  clear hk
  go_wp2_with (first | (go_at_call 9; refine (pto_any _ _ _ _ (by omega) (by omega)).mono ?_; rintro e w' ⟨rfl, rfl⟩) | (go_at_call 10; refine (ptor_any _ _ _ _ (by omega) (by omega)).mono ?_; rintro e w' ⟨rfl, rfl⟩))
  go_returns
  exact ⟨rfl, HK.out⟩

/-- The window behind k packets of size s, each acknowledged below the threshold. -/
def wk (s : Int) : Nat → Int
  | 0 => 10 * s
  | k + 1 => wk s k + s

theorem wk_bd (s : Int) (h0 : 1 ≤ s) (h1 : s ≤ 1200) (k : Nat) : 10 * s ≤ wk s k ∧ wk s k ≤ 12000 + 1200 * (k : Int) := by
  induction k with
  | zero => simp [wk]; omega
  | succ k ih => simp only [wk]; omega

theorem wk_eq (s : Int) (k : Nat) : wk s k = (10 + (k : Int)) * s := by
  induction k with
  | zero => simp [wk]
  | succ k ih =>
    simp only [wk, ih]
    rw [show (10 + ((k + 1 : Nat) : Int)) = (10 + (k : Int)) + 1 by omega, Int.add_mul (10 + (k : Int)) 1 s, Int.one_mul]

theorem acked_slow (s W a : Int) (h0 : 1 ≤ s) (h1 : s ≤ 1200) (hW : W + s ≤ 1073741824) (hs : s ≤ W) : CG.acked ⟨s, W, 1073741824, 0, false, 0⟩ s a = ⟨s, W + s, 1073741824, 0, false, 0⟩ := by
  unfold CG.acked most CG.early
  simp only [Bool.false_and]
  rw [if_neg (by simp; omega), if_pos (by omega), if_neg (by omega), if_neg (by omega)]

theorem acked_fast (s W T G : Int) (h0 : 1 ≤ s) (h1 : s ≤ 1200) (hW : T ≤ W) (hG : 0 ≤ G) (hGW : G < W) (h2 : 2 * s ≤ W) (h3 : W + s ≤ 1073741824) :
    CG.acked ⟨s, W, T, G, true, 200⟩ s 300 = if W ≤ G + s then ⟨s, W + s, T, G + s - W, true, 200⟩ else ⟨s, W, T, G + s, true, 200⟩ := by
  unfold CG.acked most CG.early
  simp only
  rw [if_neg (by simp; omega), if_neg (by omega), if_neg (by omega)]
  obtain ⟨f, hf⟩ : ∃ f, (G + s + 1).toNat = f + 1 := ⟨(G + s).toNat, by omega⟩
  rw [hf]
  by_cases h : W ≤ G + s
  · rw [if_pos h, gath_step _ _ _ _ h, if_neg (by omega), gath_stop _ _ _ _ (by omega)]
  · rw [if_neg h, gath_stop _ _ _ _ (by omega)]

set_option maxHeartbeats 1000000 in
theorem walkCongSlow (w : World) (a0 : Int) (w0 : (Lit.int .u16 a0).wf = true) (a1 : Int) (w1 : (Lit.int .u8 a1).wf = true) (a2 : Int) (w2 : (Lit.int .u8 a2).wf = true) :
    Calls Try.prog 5 #[.int .u16 a0, .int .u8 a1, .int .u8 a2] w fun e w' => e = .returned (.bool true) ∧ Below w.heap.size w w' := by
  obtain ⟨h0, h0'⟩ := wf_u16_iff w0
  obtain ⟨h1, h1'⟩ := wf_u8_iff w1
  obtain ⟨h2, h2'⟩ := wf_u8_iff w2
  clear w0 w1 w2
  obtain ⟨N, hN⟩ : ∃ N : Nat, a1 % 20 = N := ⟨(a1 % 20).toNat, by omega⟩
  have hN1 : N ≤ 19 := by omega
  have hmul : IntKind.i64.wrap ((10 + a1 % 20) * (a0 % 1200 + 1)) = wk (a0 % 1200 + 1) N := by
    rw [hN, ← wk_eq]
    have := wk_bd (a0 % 1200 + 1) (by omega) (by omega) N
    exact IntWalk.i64_in _ ⟨by omega, by omega⟩
  have hwk := wk_bd (a0 % 1200 + 1)
  have HWK := Lib.hid hwk
  have HN := Lib.hid hN
  clear hwk hN
  go_enter Try.func5, Try.ntmps5
  go_wp2_with fail
  refine (known_any w).mono ?_
  rintro e w1 ⟨rfl, hk⟩
  have HK := Lib.hid hk
  clear hk
  go_wp2_with fail
  refine (new_any (a0 % 1200 + 1) _ (by omega) (by omega)).mono ?_
  rintro e w2 ⟨rfl, hw2⟩
  have HB : Hid (Blk w2 w1.heap.size (cgCells (a0 % 1200 + 1) (wk (a0 % 1200 + 1) 0) 1073741824 0 false 0) 47) := by
    rw [hw2]
    refine (Blk.new w1 (cgNew (a0 % 1200 + 1)).cells 47).as ?_
    simp [cgNew, CG.cells, cgCells, wk, show ¬ (a0 % 1200 + 1 < 1 ∨ 1200 < a0 % 1200 + 1) by omega]
  have HK2 : Hid (Below w.heap.size w w2) := by rw [hw2]; exact HK.out.alloc HK.out.size _
  have HS := Lib.hid HK.out.size
  clear hw2
  have hs1 : 1 ≤ a0 % 1200 + 1 := by omega
  have hs2 : a0 % 1200 + 1 ≤ 1200 := by omega
  go_wp2_with fail
  generalize a0 % 1200 + 1 = s at *
  clear h0 h0'
  go_loopg [9] N (fun k i wr => ∃ j : Nat, k + j = N ∧ i = .int .i64 j ∧ Blk wr w1.heap.size (cgCells s (wk s j) 1073741824 0 false 0) 47 ∧ Below w.heap.size w wr)
  case atStart => exact ⟨0, rfl, rfl, HB.out, HK2.out⟩
  case round =>
    obtain ⟨j, hj, rfl, hb, hk⟩ := hrel
    have HB1 := Lib.hid hb
    have HK1 := Lib.hid hk
    have HJ := Lib.hid hj
    clear hb hk hj
    by_cases hjN : j < N
    · have hlt : (j : Int) < a1 % 20 := by have := HN.out; omega
      go_wp2_with fail
      refine (acked_any _ ⟨s, wk s j, 1073741824, 0, false, 0⟩ s j _ HB1.out (by have := HWK.out hs1 hs2 j; simp only [CG.ok]; omega) (by omega) (by omega)).mono ?_
      rintro e w3 ⟨rfl, hb3, hk3⟩
      rw [acked_slow _ _ _ hs1 hs2 (by have := HWK.out hs1 hs2 j; omega) (by have := HWK.out hs1 hs2 j; omega)] at hb3
      have HB3 := Lib.hid hb3
      have HK3 := Lib.hid (Keeps.below HK1.out hk3 HK1.out.size (by intro k h; subst h; exact HS.out))
      clear hb3 hk3
      go_wp2_with fail
      obtain ⟨k', rfl⟩ : ∃ k', gk = k' + 1 := ⟨gk - 1, by have := HJ.out; omega⟩
      go_roundg k'
      case measure => omega
      case rel => exact ⟨j + 1, by have := HJ.out; omega, by go_num, HB3.out, HK3.out⟩
    · have hge : ¬ (j : Int) < a1 % 20 := by have := HN.out; omega
      obtain rfl : j = N := by have := HJ.out; omega
      go_wp2_with fail
      refine (window_any _ ⟨s, wk s j, 1073741824, 0, false, 0⟩ _ HB1.out).mono ?_
      rintro e w' ⟨rfl, rfl⟩
      have hw0 := (HWK.out hs1 hs2 j).1
      have hw1 := (HWK.out hs1 hs2 j).2
      go_wp2_with fail
      refine (lost_any _ ⟨s, wk s j, 1073741824, 0, false, 0⟩ 100 200 _ HB1.out (by simp only [CG.ok]; omega)).mono ?_
      rintro e w3 ⟨rfl, hb3, hk3⟩
      have eL : CG.lost ⟨s, wk s j, 1073741824, 0, false, 0⟩ 100 200 = ⟨s, wk s j / 2, wk s j / 2, 0, true, 200⟩ := by
        simp only [CG.lost, CG.early, Bool.false_and]
        rw [if_neg (by simp), if_neg (by omega)]
      rw [eL] at hb3
      have HB3 := Lib.hid hb3
      have HK3 := Lib.hid (Keeps.below HK1.out hk3 HK1.out.size (by intro k h; subst h; exact HS.out))
      clear hb3 hk3 eL
      have hmx : (if wk s j / 2 < 2 * s then 2 * s else wk s j / 2) = wk s j / 2 := if_neg (by omega)
      go_wp2_with fail
      refine (window_any _ ⟨s, wk s j / 2, wk s j / 2, 0, true, 200⟩ _ HB3.out).mono ?_
      rintro e w' ⟨rfl, rfl⟩
      clear hmul
      go_wp2_with fail
      obtain ⟨M, hM⟩ : ∃ M : Nat, a2 % 60 = M := ⟨(a2 % 60).toNat, by omega⟩
      have hM1 : M ≤ 59 := by omega
      have HM := Lib.hid hM
      have hT1 : 2 * s ≤ wk s j / 2 := by omega
      have hT2 : wk s j / 2 ≤ 36000 := by omega
      clear hM hmx hw0 hw1 hge hjN
      generalize wk s j / 2 = T at *
      go_loopg [10, 11, 12] M (fun k vw vg vi wr => ∃ (i : Nat) (W G : Int), k + i = M ∧ vi = .int .i64 i ∧ vw = .int .i64 W ∧ vg = .int .i64 G ∧ T ≤ W ∧ W ≤ T + 1200 * i ∧ 0 ≤ G ∧ G < W ∧ Blk wr w1.heap.size (cgCells s W T G true 200) 47 ∧ Below w.heap.size w wr)
      case atStart => exact ⟨0, T, 0, by omega, rfl, rfl, rfl, by omega, by omega, by omega, by omega, HB3.out, HK3.out⟩
      case round =>
        obtain ⟨i, W, G, hi, rfl, rfl, rfl, g1, g2, g3, g4, hb, hk⟩ := hrel
        have HB4 := Lib.hid hb
        have HK4 := Lib.hid hk
        have HI := Lib.hid hi
        clear hb hk hi
        by_cases hiM : i < M
        · have hlt : (i : Int) < a2 % 60 := by have := HM.out; omega
          go_wp2_with fail
          refine (acked_any _ ⟨s, W, T, G, true, 200⟩ s 300 _ HB4.out (by simp only [CG.ok]; omega) (by omega) (by omega)).mono ?_
          rintro e w5 ⟨rfl, hb5, hk5⟩
          rw [acked_fast s W T G hs1 hs2 (by omega) (by omega) (by omega) (by omega) (by omega)] at hb5
          have HB5 := Lib.hid hb5
          have HK5 := Lib.hid (Keeps.below HK4.out hk5 HK4.out.size (by intro k h; subst h; exact HS.out))
          clear hb5 hk5
          obtain ⟨k', rfl⟩ : ∃ k', gk = k' + 1 := ⟨gk - 1, by have := HI.out; omega⟩
          by_cases hc : W ≤ G + s
          · go_wp2_with fail
            go_roundg k'
            case measure => omega
            case rel =>
              have hb := HB5.out
              rw [if_pos hc] at hb
              exact ⟨i + 1, W + s, G + s - W, by have := HI.out; omega, by go_num, rfl, rfl, by omega, by omega, by omega, by omega, hb, HK5.out⟩
          · go_wp2_with fail
            go_roundg k'
            case measure => omega
            case rel =>
              have hb := HB5.out
              rw [if_neg (by omega)] at hb
              exact ⟨i + 1, W, G + s, by have := HI.out; omega, by go_num, rfl, rfl, by omega, by omega, by omega, by omega, hb, HK5.out⟩
        · have hge : ¬ (i : Int) < a2 % 60 := by have := HM.out; omega
          go_wp2_with fail
          refine (window_any _ ⟨s, W, T, G, true, 200⟩ _ HB4.out).mono ?_
          rintro e w' ⟨rfl, rfl⟩
          go_wp2_with fail
          go_returns
          exact ⟨by simp [hs2], HK4.out⟩

end Go.Proofs.Ytnegiagooahncaa
