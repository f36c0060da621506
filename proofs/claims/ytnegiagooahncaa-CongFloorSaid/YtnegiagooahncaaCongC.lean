/- Acked of both packages. -/
import Derived.Test.YtnegiagooahncaaCongB
import Derived.Deep.LoopGhost
namespace Go.Proofs.Ytnegiagooahncaa
open Go.RowKit

def gath : Nat → Int → Int → Int → Int × Int
  | 0, W, G, _ => (W, G)
  | f + 1, W, G, s => if W ≤ G then gath f (if 1073741824 < W + s then 1073741824 else W + s) (G - W) s else (W, G)

theorem gath_stop (f : Nat) (W G s : Int) (h : G < W) : gath f W G s = (W, G) := by
  cases f with
  | zero => rfl
  | succ f => rw [gath, if_neg (by omega)]

theorem gath_step (f : Nat) (W G s : Int) (h : W ≤ G) : gath (f + 1) W G s = gath f (if 1073741824 < W + s then 1073741824 else W + s) (G - W) s := by
  rw [gath, if_pos h]

theorem gath_ok (f : Nat) : ∀ (W G s : Int), 1 ≤ s → s ≤ 1200 → 2 * s ≤ W → W ≤ 1073741824 → 0 ≤ G → G < f →
    2 * s ≤ (gath f W G s).1 ∧ (gath f W G s).1 ≤ 1073741824 ∧ 0 ≤ (gath f W G s).2 ∧ (gath f W G s).2 < (gath f W G s).1 := by
  induction f with
  | zero => intro W G s _ _ _ _ h0 h1; omega
  | succ f ih =>
    intro W G s h1 h2 h3 h4 h5 h6
    by_cases h : W ≤ G
    · rw [gath_step _ _ _ _ h]
      refine ih _ _ _ h1 h2 ?_ ?_ (by omega) (by omega)
      · split <;> omega
      · split <;> omega
    · rw [gath_stop _ _ _ _ (by omega)]
      exact ⟨h3, h4, h5, by omega⟩

def most (n : Int) : Int := if 1073741824 < n then 1073741824 else n

def CG.acked (c : CG) (n a : Int) : CG :=
  if n < 1 ∨ c.early a = true then c
  else if c.W < c.T then { c with W := most (c.W + most n) }
  else { c with W := (gath (c.G + most n + 1).toNat c.W (c.G + most n) c.s).1, G := (gath (c.G + most n + 1).toNat c.W (c.G + most n) c.s).2 }

theorem CG.acked_ok {c : CG} (h : c.ok) (n a : Int) : (c.acked n a).ok := by
  unfold CG.acked
  split
  · exact h
  · rename_i hn
    have hn' : 1 ≤ n := by omega
    have hm : 1 ≤ most n ∧ most n ≤ 1073741824 := by unfold most; split <;> omega
    unfold CG.ok at *
    split
    · simp only [most] at *
      split <;> omega
    · have := gath_ok (c.G + most n + 1).toNat c.W (c.G + most n) c.s (by omega) (by omega) (by omega) (by omega) (by omega) (by omega)
      simp only
      omega

set_option maxHeartbeats 400000 in
theorem acked_any (b : Nat) (c : CG) (n a : Int) (w : World) (hb : Blk w b c.cells 47) (hc : c.ok) (hn0 : -9223372036854775808 ≤ n) (hn1 : n ≤ 9223372036854775807) :
    Calls Try.prog 14 #[.pointer (some ⟨b, 0, none⟩), .int .i64 n, .int .u64 a] w fun e w' => e = .returned (.tuple #[]) ∧ Blk w' b (c.acked n a).cells 47 ∧ Keeps (fun k => k = b) w w' := by
  obtain ⟨⟨h0, h1, h2, h3, h4, h5⟩, hf⟩ := cells_of hb
  have HB := Lib.hid hb
  obtain ⟨hc0, hc1, hc2, hc3, hc4, hc5, hc6, hc7⟩ := hc
  clear hb
  have hm : (if 1073741824 < n then 1073741824 else n) = most n := rfl
  by_cases hn : n < 1
  · have hm' : most n < 1 := by unfold most; split <;> omega
    go_enter Try.func14, Try.ntmps14
    go_wp2_with (first | go_region)
    go_returns
    exact ⟨rfl, by simp only [CG.acked, hn, true_or, if_true]; exact HB.out, Keeps.refl _ _⟩
  · have hm1 : 1 ≤ most n := by unfold most; split <;> omega
    have hm2 : most n ≤ 1073741824 := by unfold most; split <;> omega
    cases he : c.early a
    · have HE := Lib.hid he
      clear he
      by_cases hT : c.W < c.T
      · go_enter Try.func14, Try.ntmps14
        go_wp2_with (first | (go_at_call 22; refine (early_any _ c _ _ HB.out).mono ?_; rintro e w' ⟨rfl, rfl⟩; rw [HE.out]) | go_region)

        all_goals
          go_returns
          refine ⟨rfl, ?_, by repeat (first | (with_reducible exact Keeps.refl _ _) | (with_reducible refine Keeps.drew ?_) | (with_reducible refine Keeps.put ?_ _ _))⟩
          apply Blk.as
          · repeat (first | (with_reducible exact HB.out) | (with_reducible apply Blk.drew) | (with_reducible apply Blk.set))
          · simp [CG.cells, CG.acked, HE.out, hT, most, show ¬ n < 1 by omega] at * <;> omega
      · go_enter Try.func14, Try.ntmps14
        go_wp2_with (first | (go_at_call 22; refine (early_any _ c _ _ HB.out).mono ?_; rintro e w' ⟨rfl, rfl⟩; rw [HE.out]) | go_region)

        have E0 : c.acked n a = ⟨c.s, (gath (c.G + most n + 1).toNat c.W (c.G + most n) c.s).1, c.T, (gath (c.G + most n + 1).toNat c.W (c.G + most n) c.s).2, c.R, c.S⟩ := by
          unfold CG.acked
          rw [if_neg (by rw [HE.out]; simp; omega), if_neg (by omega)]
        have HE0 := Lib.hid E0
        clear E0
        have HB1 : Hid (Blk (w.setCell ⟨b, 3, none⟩ (.int .i64 (c.G + most n))) b (cgCells c.s c.W c.T (c.G + most n) c.R c.S) 47) := by
          apply Blk.as
          · exact HB.out.set 3 _
          · simp [CG.cells, cgCells]
        have HM : Hid (c.G + most n < ((c.G + most n + 1).toNat : Int)) := by
          show c.G + most n < ((c.G + most n + 1).toNat : Int)
          omega
        go_loopg [] (c.G + most n + 1).toNat (fun k wr => ∃ W G : Int, 2 * c.s ≤ W ∧ W ≤ 1073741824 ∧ 0 ≤ G ∧ G ≤ 2147483648 ∧ G < k ∧ Blk wr b (cgCells c.s W c.T G c.R c.S) 47 ∧ Keeps (fun k => k = b) w wr ∧ gath k W G c.s = gath (c.G + most n + 1).toNat c.W (c.G + most n) c.s)
        case atStart => exact ⟨c.W, c.G + most n, by omega, by omega, by omega, by omega, HM.out, HB1.out, by repeat (first | (with_reducible exact Keeps.refl _ _) | (with_reducible refine Keeps.drew ?_) | (with_reducible refine Keeps.put ?_ _ _)), rfl⟩
        case round =>
          obtain ⟨W, G, g1, g2, g3, g4, g5, g6, g7, g8⟩ := hrel
          clear h0 h1 h2 h3 h4 h5 hf
          obtain ⟨⟨h0, h1, h2, h3, h4, h5⟩, hf⟩ := cells_of' g6
          have G5 := Lib.hid g5
          have G6 := Lib.hid g6
          have G7 := Lib.hid g7
          have G8 := Lib.hid g8
          clear g5 g6 g7 g8
          by_cases hg : W ≤ G
          · have hw1 : W + c.s ≤ 2147483648 := by omega
            go_wp2_with (first | go_region)
            all_goals
              obtain ⟨k', rfl⟩ : ∃ k', gk = k' + 1 := ⟨gk - 1, by have := G5.out; omega⟩
              go_roundg k'
              case measure => omega
              case rel =>
                refine ⟨if 1073741824 < W + c.s then 1073741824 else W + c.s, G - W, by split <;> omega, by split <;> omega, by omega, by omega, by have := G5.out; omega, ?_, ?_, ?_⟩
                · apply Blk.as
                  · repeat (first | (with_reducible exact G6.out) | (with_reducible apply Blk.drew) | (with_reducible apply Blk.set))
                  · simp [cgCells]; try omega
                · repeat (first | (with_reducible exact G7.out) | (with_reducible refine Keeps.drew ?_) | (with_reducible refine Keeps.put ?_ _ _))
                · rw [← G8.out, gath_step _ _ _ _ (by omega)]
          · go_wp2_with (first | go_region)
            go_returns
            refine ⟨rfl, ?_, G7.out.drew⟩
            have e := G8.out
            rw [gath_stop _ _ _ _ (by omega)] at e
            rw [HE0.out, ← e]
            exact G6.out.drew
    · have HE := Lib.hid he
      clear he
      go_enter Try.func14, Try.ntmps14
      go_wp2_with (first | (go_at_call 22; refine (early_any _ c _ _ HB.out).mono ?_; rintro e w' ⟨rfl, rfl⟩; rw [HE.out]) | go_region)

      go_returns
      exact ⟨rfl, by simp only [CG.acked, HE.out, or_true, if_true]; exact HB.out, by repeat (first | (with_reducible exact Keeps.refl _ _) | (with_reducible refine Keeps.drew ?_))⟩

set_option maxHeartbeats 400000 in
theorem ackedr_any (b : Nat) (c : CG) (n a : Int) (w : World) (hb : Blk w b c.cells 40) (hc : c.ok) (hn0 : -9223372036854775808 ≤ n) (hn1 : n ≤ 9223372036854775807) :
    Calls Try.prog 19 #[.pointer (some ⟨b, 0, none⟩), .int .i64 n, .int .u64 a] w fun e w' => e = .returned (.tuple #[]) ∧ Blk w' b (c.acked n a).cells 40 ∧ Keeps (fun k => k = b) w w' := by
  obtain ⟨⟨h0, h1, h2, h3, h4, h5⟩, hf⟩ := cells_of hb
  have HB := Lib.hid hb
  obtain ⟨hc0, hc1, hc2, hc3, hc4, hc5, hc6, hc7⟩ := hc
  clear hb
  have hm : (if 1073741824 < n then 1073741824 else n) = most n := rfl
  by_cases hn : n < 1
  · have hm' : most n < 1 := by unfold most; split <;> omega
    go_enter Try.func19, Try.ntmps19
    go_wp2_with (first | go_region)
    go_returns
    exact ⟨rfl, by simp only [CG.acked, hn, true_or, if_true]; exact HB.out, Keeps.refl _ _⟩
  · have hm1 : 1 ≤ most n := by unfold most; split <;> omega
    have hm2 : most n ≤ 1073741824 := by unfold most; split <;> omega
    cases hR : c.R
    · have HE : Hid (c.early a = false) := by show c.early a = false; simp [CG.early, hR]
      rw [hR] at h4
      have HR := Lib.hid hR
      clear hR
      by_cases hT : c.W < c.T
      · go_enter Try.func19, Try.ntmps19
        go_wp2_with (first | go_region)

        all_goals
          go_returns
          refine ⟨rfl, ?_, by repeat (first | (with_reducible exact Keeps.refl _ _) | (with_reducible refine Keeps.drew ?_) | (with_reducible refine Keeps.put ?_ _ _))⟩
          apply Blk.as
          · repeat (first | (with_reducible exact HB.out) | (with_reducible apply Blk.drew) | (with_reducible apply Blk.set))
          · simp [CG.cells, CG.acked, HE.out, hT, most, show ¬ n < 1 by omega] at * <;> omega
      · go_enter Try.func19, Try.ntmps19
        go_wp2_with (first | go_region)

        have E0 : c.acked n a = ⟨c.s, (gath (c.G + most n + 1).toNat c.W (c.G + most n) c.s).1, c.T, (gath (c.G + most n + 1).toNat c.W (c.G + most n) c.s).2, c.R, c.S⟩ := by
          unfold CG.acked
          rw [if_neg (by rw [HE.out]; simp; omega), if_neg (by omega)]
        have HE0 := Lib.hid E0
        clear E0
        have HB1 : Hid (Blk (w.setCell ⟨b, 3, none⟩ (.int .i64 (c.G + most n))) b (cgCells c.s c.W c.T (c.G + most n) c.R c.S) 40) := by
          apply Blk.as
          · exact HB.out.set 3 _
          · simp [CG.cells, cgCells]
        have HM : Hid (c.G + most n < ((c.G + most n + 1).toNat : Int)) := by
          show c.G + most n < ((c.G + most n + 1).toNat : Int)
          omega
        go_loopg [] (c.G + most n + 1).toNat (fun k wr => ∃ W G : Int, 2 * c.s ≤ W ∧ W ≤ 1073741824 ∧ 0 ≤ G ∧ G ≤ 2147483648 ∧ G < k ∧ Blk wr b (cgCells c.s W c.T G c.R c.S) 40 ∧ Keeps (fun k => k = b) w wr ∧ gath k W G c.s = gath (c.G + most n + 1).toNat c.W (c.G + most n) c.s)
        case atStart => exact ⟨c.W, c.G + most n, by omega, by omega, by omega, by omega, HM.out, HB1.out, by repeat (first | (with_reducible exact Keeps.refl _ _) | (with_reducible refine Keeps.drew ?_) | (with_reducible refine Keeps.put ?_ _ _)), rfl⟩
        case round =>
          obtain ⟨W, G, g1, g2, g3, g4, g5, g6, g7, g8⟩ := hrel
          clear h0 h1 h2 h3 h4 h5 hf
          obtain ⟨⟨h0, h1, h2, h3, h4, h5⟩, hf⟩ := cells_of' g6
          have G5 := Lib.hid g5
          have G6 := Lib.hid g6
          have G7 := Lib.hid g7
          have G8 := Lib.hid g8
          clear g5 g6 g7 g8
          by_cases hg : W ≤ G
          · have hw1 : W + c.s ≤ 2147483648 := by omega
            go_wp2_with (first | go_region)
            all_goals
              obtain ⟨k', rfl⟩ : ∃ k', gk = k' + 1 := ⟨gk - 1, by have := G5.out; omega⟩
              go_roundg k'
              case measure => omega
              case rel =>
                refine ⟨if 1073741824 < W + c.s then 1073741824 else W + c.s, G - W, by split <;> omega, by split <;> omega, by omega, by omega, by have := G5.out; omega, ?_, ?_, ?_⟩
                · apply Blk.as
                  · repeat (first | (with_reducible exact G6.out) | (with_reducible apply Blk.drew) | (with_reducible apply Blk.set))
                  · simp [cgCells]; try omega
                · repeat (first | (with_reducible exact G7.out) | (with_reducible refine Keeps.drew ?_) | (with_reducible refine Keeps.put ?_ _ _))
                · rw [← G8.out, gath_step _ _ _ _ (by omega)]
          · go_wp2_with (first | go_region)
            go_returns
            refine ⟨rfl, ?_, G7.out.drew⟩
            have e := G8.out
            rw [gath_stop _ _ _ _ (by omega)] at e
            rw [HE0.out, ← e]
            exact G6.out.drew
    · by_cases hS : a ≤ c.S
      · have HE : Hid (c.early a = true) := by show c.early a = true; simp [CG.early, hR, hS]
        rw [hR] at h4
        clear hR
        go_enter Try.func19, Try.ntmps19
        go_wp2_with (first | go_region)

        go_returns
        exact ⟨rfl, by simp only [CG.acked, HE.out, or_true, if_true]; exact HB.out, by repeat (first | (with_reducible exact Keeps.refl _ _) | (with_reducible refine Keeps.drew ?_))⟩
      · have HE : Hid (c.early a = false) := by show c.early a = false; simp [CG.early, hR]; omega
        rw [hR] at h4
        have HR := Lib.hid hR
        clear hR
        by_cases hT : c.W < c.T
        · go_enter Try.func19, Try.ntmps19
          go_wp2_with (first | go_region)

          all_goals
            go_returns
            refine ⟨rfl, ?_, by repeat (first | (with_reducible exact Keeps.refl _ _) | (with_reducible refine Keeps.drew ?_) | (with_reducible refine Keeps.put ?_ _ _))⟩
            apply Blk.as
            · repeat (first | (with_reducible exact HB.out) | (with_reducible apply Blk.drew) | (with_reducible apply Blk.set))
            · simp [CG.cells, CG.acked, HE.out, hT, most, show ¬ n < 1 by omega] at * <;> omega
        · go_enter Try.func19, Try.ntmps19
          go_wp2_with (first | go_region)

          have E0 : c.acked n a = ⟨c.s, (gath (c.G + most n + 1).toNat c.W (c.G + most n) c.s).1, c.T, (gath (c.G + most n + 1).toNat c.W (c.G + most n) c.s).2, c.R, c.S⟩ := by
            unfold CG.acked
            rw [if_neg (by rw [HE.out]; simp; omega), if_neg (by omega)]
          have HE0 := Lib.hid E0
          clear E0
          have HB1 : Hid (Blk (w.setCell ⟨b, 3, none⟩ (.int .i64 (c.G + most n))) b (cgCells c.s c.W c.T (c.G + most n) c.R c.S) 40) := by
            apply Blk.as
            · exact HB.out.set 3 _
            · simp [CG.cells, cgCells]
          have HM : Hid (c.G + most n < ((c.G + most n + 1).toNat : Int)) := by
            show c.G + most n < ((c.G + most n + 1).toNat : Int)
            omega
          go_loopg [] (c.G + most n + 1).toNat (fun k wr => ∃ W G : Int, 2 * c.s ≤ W ∧ W ≤ 1073741824 ∧ 0 ≤ G ∧ G ≤ 2147483648 ∧ G < k ∧ Blk wr b (cgCells c.s W c.T G c.R c.S) 40 ∧ Keeps (fun k => k = b) w wr ∧ gath k W G c.s = gath (c.G + most n + 1).toNat c.W (c.G + most n) c.s)
          case atStart => exact ⟨c.W, c.G + most n, by omega, by omega, by omega, by omega, HM.out, HB1.out, by repeat (first | (with_reducible exact Keeps.refl _ _) | (with_reducible refine Keeps.drew ?_) | (with_reducible refine Keeps.put ?_ _ _)), rfl⟩
          case round =>
            obtain ⟨W, G, g1, g2, g3, g4, g5, g6, g7, g8⟩ := hrel
            clear h0 h1 h2 h3 h4 h5 hf
            obtain ⟨⟨h0, h1, h2, h3, h4, h5⟩, hf⟩ := cells_of' g6
            have G5 := Lib.hid g5
            have G6 := Lib.hid g6
            have G7 := Lib.hid g7
            have G8 := Lib.hid g8
            clear g5 g6 g7 g8
            by_cases hg : W ≤ G
            · have hw1 : W + c.s ≤ 2147483648 := by omega
              go_wp2_with (first | go_region)
              all_goals
                obtain ⟨k', rfl⟩ : ∃ k', gk = k' + 1 := ⟨gk - 1, by have := G5.out; omega⟩
                go_roundg k'
                case measure => omega
                case rel =>
                  refine ⟨if 1073741824 < W + c.s then 1073741824 else W + c.s, G - W, by split <;> omega, by split <;> omega, by omega, by omega, by have := G5.out; omega, ?_, ?_, ?_⟩
                  · apply Blk.as
                    · repeat (first | (with_reducible exact G6.out) | (with_reducible apply Blk.drew) | (with_reducible apply Blk.set))
                    · simp [cgCells]; try omega
                  · repeat (first | (with_reducible exact G7.out) | (with_reducible refine Keeps.drew ?_) | (with_reducible refine Keeps.put ?_ _ _))
                  · rw [← G8.out, gath_step _ _ _ _ (by omega)]
            · go_wp2_with (first | go_region)
              go_returns
              refine ⟨rfl, ?_, G7.out.drew⟩
              have e := G8.out
              rw [gath_stop _ _ _ _ (by omega)] at e
              rw [HE0.out, ← e]
              exact G6.out.drew

end Go.Proofs.Ytnegiagooahncaa
