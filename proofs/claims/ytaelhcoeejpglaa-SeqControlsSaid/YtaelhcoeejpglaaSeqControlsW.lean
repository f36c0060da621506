/- The walk of SeqControls. -/
import Derived.Test.YtaelhcoeejpglaaSeqD
namespace Go.Proofs.Ytaelhcoeejpglaa
open Go.RowKit Go.Deep

set_option maxRecDepth 100000 in
set_option maxHeartbeats 12800000 in
theorem walkSeqControls (w : World) (v0 : Value) (h0 : Arg Try.prog w 22 v0) (srv : Bool) :
    Calls Try.prog 4 #[v0, .bool srv] w fun e w' => e = .returned (.bool true) ∧ Below w.heap.size w w' := by
  obtain ⟨a, m, cap, xs, rfl, hby, hkeep⟩ := h0.bytes
  have HKEEP := Lib.hid hkeep
  clear hby hkeep h0
  go_enter Try.func4, Try.ntmps4
  go_wp2_with fail
  refine (known_any w).mono ?_
  rintro e w1 ⟨rfl, hk1⟩
  have HK := Lib.hid hk1
  clear hk1
  by_cases h20 : 20 < m
  · go_wp2_with fail
    go_returns
    exact ⟨rfl, HK.out⟩
  · go_wp2_with fail
    go_loopg [5, 6, 7, 8] m (fun k vs vr vw vi wr => ∃ (i : Nat) (s r : Int), k + i = m ∧ vi = .int .i64 i ∧ vs = .int .i64 s ∧ vr = .int .i64 r ∧ vw = .int .i64 r ∧ (r = 0 → (i = 0 ∧ s = 0) ∨ (0 < i ∧ s = 1)) ∧ Below w.heap.size w wr)
    case atStart => exact ⟨0, 0, 0, by omega, rfl, rfl, rfl, rfl, fun _ => .inl ⟨rfl, rfl⟩, HK.out⟩
    case round =>
      obtain ⟨i, s, r, hi, rfl, rfl, rfl, rfl, hg, hkr⟩ := hrel
      have HI := Lib.hid hi
      have HKR := Lib.hid hkr
      have HB := Lib.hid (HKEEP.out wr hkr)
      have hml := HB.out.1
      have HML := Lib.hid hml
      clear hi hkr HK hml
      by_cases hr : r = 0
      · subst hr
        have HG := Lib.hid (hg rfl)
        clear hg
        by_cases hlt : i < m
        · have hi' : i < xs.length := by rw [← HML.out]; exact hlt
          obtain ⟨b, off, rfl, hb, hcell⟩ := HB.out.get (by omega)
          have hc := hcell i hi'
          have hc8 : xs[i].toNat < 256 := xs[i].toNat_lt
          generalize xs[i].toNat = c at hc hc8
          have hca : (wr.alloc (.cells #[.int .u64 4, .int .u64 7, .int .u64 3, .int .u64 13, .int .u64 33, .int .u64 0, .int .u64 1, .int .u64 2] 24 (0, 0))).cell? ⟨b, off + i, none⟩ = some (.int .u8 (c : Int)) := by rw [World.cell?_alloc_old _ _ _ (by show b ≠ _; omega)]; exact hc
          have HK2 := Lib.hid (HKR.out.alloc HKR.out.size (.cells #[.int .u64 4, .int .u64 7, .int .u64 3, .int .u64 13, .int .u64 33, .int .u64 0, .int .u64 1, .int .u64 2] 24 (0, 0)))
          have HBL := Lib.hid hb
          clear hcell hb
          rcases HG.out with ⟨hi0, hs0⟩ | ⟨hi0, hs1⟩
          · subst hs0; subst hi0
            simp only [Nat.add_zero] at hc hca
            rcases (show (c : Int) % 8 = 0 ∨ (c : Int) % 8 = 1 ∨ (c : Int) % 8 = 2 ∨ (c : Int) % 8 = 3 ∨ (c : Int) % 8 = 4 ∨ (c : Int) % 8 = 5 ∨ (c : Int) % 8 = 6 ∨ (c : Int) % 8 = 7 by omega) with h8 | h8 | h8 | h8 | h8 | h8 | h8 | h8 <;> cases srv
            · have ec : ctl 0 4 false = (1, 0) := by decide
              go_wp2_with (first | (go_at_call 8; refine (control_r _ _ _ _ _ (Lib.hid ec)).mono ?_; rintro e w3 ⟨rfl, rfl⟩; dsimp only) | (go_roundg (m - 1); refine ⟨1, 1, 0, by omega, by go_num, rfl, rfl, rfl, fun _ => .inr ⟨by omega, rfl⟩, HK2.out⟩))
              all_goals (have := HI.out; omega)
            · have ec : ctl 0 4 true = (1, 0) := by decide
              go_wp2_with (first | (go_at_call 8; refine (control_r _ _ _ _ _ (Lib.hid ec)).mono ?_; rintro e w3 ⟨rfl, rfl⟩; dsimp only) | (go_roundg (m - 1); refine ⟨1, 1, 0, by omega, by go_num, rfl, rfl, rfl, fun _ => .inr ⟨by omega, rfl⟩, HK2.out⟩))
              all_goals (have := HI.out; omega)
            · have ec : ctl 0 7 false = (0, 4) := by decide
              go_wp2_with (first | (go_at_call 8; refine (control_r _ _ _ _ _ (Lib.hid ec)).mono ?_; rintro e w3 ⟨rfl, rfl⟩; dsimp only) | (go_roundg (m - 1); refine ⟨1, 0, 4, by omega, by go_num, rfl, rfl, rfl, fun h => absurd h (by decide), HK2.out⟩))
              all_goals (have := HI.out; omega)
            · have ec : ctl 0 7 true = (0, 4) := by decide
              go_wp2_with (first | (go_at_call 8; refine (control_r _ _ _ _ _ (Lib.hid ec)).mono ?_; rintro e w3 ⟨rfl, rfl⟩; dsimp only) | (go_roundg (m - 1); refine ⟨1, 0, 4, by omega, by go_num, rfl, rfl, rfl, fun h => absurd h (by decide), HK2.out⟩))
              all_goals (have := HI.out; omega)
            · have ec : ctl 0 3 false = (0, 4) := by decide
              go_wp2_with (first | (go_at_call 8; refine (control_r _ _ _ _ _ (Lib.hid ec)).mono ?_; rintro e w3 ⟨rfl, rfl⟩; dsimp only) | (go_roundg (m - 1); refine ⟨1, 0, 4, by omega, by go_num, rfl, rfl, rfl, fun h => absurd h (by decide), HK2.out⟩))
              all_goals (have := HI.out; omega)
            · have ec : ctl 0 3 true = (0, 4) := by decide
              go_wp2_with (first | (go_at_call 8; refine (control_r _ _ _ _ _ (Lib.hid ec)).mono ?_; rintro e w3 ⟨rfl, rfl⟩; dsimp only) | (go_roundg (m - 1); refine ⟨1, 0, 4, by omega, by go_num, rfl, rfl, rfl, fun h => absurd h (by decide), HK2.out⟩))
              all_goals (have := HI.out; omega)
            · have ec : ctl 0 13 false = (0, 4) := by decide
              go_wp2_with (first | (go_at_call 8; refine (control_r _ _ _ _ _ (Lib.hid ec)).mono ?_; rintro e w3 ⟨rfl, rfl⟩; dsimp only) | (go_roundg (m - 1); refine ⟨1, 0, 4, by omega, by go_num, rfl, rfl, rfl, fun h => absurd h (by decide), HK2.out⟩))
              all_goals (have := HI.out; omega)
            · have ec : ctl 0 13 true = (0, 4) := by decide
              go_wp2_with (first | (go_at_call 8; refine (control_r _ _ _ _ _ (Lib.hid ec)).mono ?_; rintro e w3 ⟨rfl, rfl⟩; dsimp only) | (go_roundg (m - 1); refine ⟨1, 0, 4, by omega, by go_num, rfl, rfl, rfl, fun h => absurd h (by decide), HK2.out⟩))
              all_goals (have := HI.out; omega)
            · have ec : ctl 0 33 false = (0, 4) := by decide
              go_wp2_with (first | (go_at_call 8; refine (control_r _ _ _ _ _ (Lib.hid ec)).mono ?_; rintro e w3 ⟨rfl, rfl⟩; dsimp only) | (go_roundg (m - 1); refine ⟨1, 0, 4, by omega, by go_num, rfl, rfl, rfl, fun h => absurd h (by decide), HK2.out⟩))
              all_goals (have := HI.out; omega)
            · have ec : ctl 0 33 true = (0, 4) := by decide
              go_wp2_with (first | (go_at_call 8; refine (control_r _ _ _ _ _ (Lib.hid ec)).mono ?_; rintro e w3 ⟨rfl, rfl⟩; dsimp only) | (go_roundg (m - 1); refine ⟨1, 0, 4, by omega, by go_num, rfl, rfl, rfl, fun h => absurd h (by decide), HK2.out⟩))
              all_goals (have := HI.out; omega)
            · have ec : ctl 0 0 false = (0, 4) := by decide
              go_wp2_with (first | (go_at_call 8; refine (control_r _ _ _ _ _ (Lib.hid ec)).mono ?_; rintro e w3 ⟨rfl, rfl⟩; dsimp only) | (go_roundg (m - 1); refine ⟨1, 0, 4, by omega, by go_num, rfl, rfl, rfl, fun h => absurd h (by decide), HK2.out⟩))
              all_goals (have := HI.out; omega)
            · have ec : ctl 0 0 true = (0, 4) := by decide
              go_wp2_with (first | (go_at_call 8; refine (control_r _ _ _ _ _ (Lib.hid ec)).mono ?_; rintro e w3 ⟨rfl, rfl⟩; dsimp only) | (go_roundg (m - 1); refine ⟨1, 0, 4, by omega, by go_num, rfl, rfl, rfl, fun h => absurd h (by decide), HK2.out⟩))
              all_goals (have := HI.out; omega)
            · have ec : ctl 0 1 false = (0, 4) := by decide
              go_wp2_with (first | (go_at_call 8; refine (control_r _ _ _ _ _ (Lib.hid ec)).mono ?_; rintro e w3 ⟨rfl, rfl⟩; dsimp only) | (go_roundg (m - 1); refine ⟨1, 0, 4, by omega, by go_num, rfl, rfl, rfl, fun h => absurd h (by decide), HK2.out⟩))
              all_goals (have := HI.out; omega)
            · have ec : ctl 0 1 true = (0, 4) := by decide
              go_wp2_with (first | (go_at_call 8; refine (control_r _ _ _ _ _ (Lib.hid ec)).mono ?_; rintro e w3 ⟨rfl, rfl⟩; dsimp only) | (go_roundg (m - 1); refine ⟨1, 0, 4, by omega, by go_num, rfl, rfl, rfl, fun h => absurd h (by decide), HK2.out⟩))
              all_goals (have := HI.out; omega)
            · have ec : ctl 0 2 false = (0, 4) := by decide
              go_wp2_with (first | (go_at_call 8; refine (control_r _ _ _ _ _ (Lib.hid ec)).mono ?_; rintro e w3 ⟨rfl, rfl⟩; dsimp only) | (go_roundg (m - 1); refine ⟨1, 0, 4, by omega, by go_num, rfl, rfl, rfl, fun h => absurd h (by decide), HK2.out⟩))
              all_goals (have := HI.out; omega)
            · have ec : ctl 0 2 true = (0, 4) := by decide
              go_wp2_with (first | (go_at_call 8; refine (control_r _ _ _ _ _ (Lib.hid ec)).mono ?_; rintro e w3 ⟨rfl, rfl⟩; dsimp only) | (go_roundg (m - 1); refine ⟨1, 0, 4, by omega, by go_num, rfl, rfl, rfl, fun h => absurd h (by decide), HK2.out⟩))
              all_goals (have := HI.out; omega)
          · subst hs1
            have hii : (0 : Int) < (i : Int) := by omega
            have hi1 : ((i : Int) == 0) = false := by simp; omega
            by_cases h3 : (c : Int) % 3 > 0
            · have hcb : ((wr.alloc (.cells #[.int .u64 4, .int .u64 7, .int .u64 3, .int .u64 13, .int .u64 33, .int .u64 0, .int .u64 1, .int .u64 2] 24 (0, 0))).alloc (.cells #[.int .u64 7, .int .u64 3, .int .u64 33, .int .u64 64] 24 (0, 0))).cell? ⟨b, off + i, none⟩ = some (.int .u8 (c : Int)) := by rw [World.cell?_alloc_old _ _ _ (by have := HBL.out; show b ≠ _; simp; omega)]; exact hca
              have HK3 := Lib.hid (HK2.out.alloc HK2.out.size (.cells #[.int .u64 7, .int .u64 3, .int .u64 33, .int .u64 64] 24 (0, 0)))
              obtain ⟨t0, ht0⟩ : ∃ t0 : Int, (wr.alloc (.cells #[.int .u64 4, .int .u64 7, .int .u64 3, .int .u64 13, .int .u64 33, .int .u64 0, .int .u64 1, .int .u64 2] 24 (0, 0))).cell? ⟨wr.heap.size, c % 8, none⟩ = some (.int .u64 t0) := by
                have hb := Blk.new wr #[.int .u64 4, .int .u64 7, .int .u64 3, .int .u64 13, .int .u64 33, .int .u64 0, .int .u64 1, .int .u64 2] 24
                rcases (show c % 8 = 0 ∨ c % 8 = 1 ∨ c % 8 = 2 ∨ c % 8 = 3 ∨ c % 8 = 4 ∨ c % 8 = 5 ∨ c % 8 = 6 ∨ c % 8 = 7 by omega) with h8 | h8 | h8 | h8 | h8 | h8 | h8 | h8 <;> rw [h8] <;> exact ⟨_, hb.cell _⟩
              rcases (show (c : Int) / 8 % 4 = 0 ∨ (c : Int) / 8 % 4 = 1 ∨ (c : Int) / 8 % 4 = 2 ∨ (c : Int) / 8 % 4 = 3 by omega) with h4 | h4 | h4 | h4 <;> cases srv
              · have ec : ctl 1 7 false = (1, 0) := by decide
                go_wp2_with (first | (go_at_call 8; refine (control_r _ _ _ _ _ (Lib.hid ec)).mono ?_; rintro e w3 ⟨rfl, rfl⟩; dsimp only) | (go_roundg (m - (i + 1)); refine ⟨(i + 1), 1, 0, by omega, by go_num, rfl, rfl, rfl, fun _ => .inr ⟨by omega, rfl⟩, HK3.out⟩))
                all_goals (have := HI.out; omega)
              · have ec : ctl 1 7 true = (1, 0) := by decide
                go_wp2_with (first | (go_at_call 8; refine (control_r _ _ _ _ _ (Lib.hid ec)).mono ?_; rintro e w3 ⟨rfl, rfl⟩; dsimp only) | (go_roundg (m - (i + 1)); refine ⟨(i + 1), 1, 0, by omega, by go_num, rfl, rfl, rfl, fun _ => .inr ⟨by omega, rfl⟩, HK3.out⟩))
                all_goals (have := HI.out; omega)
              · have ec : ctl 1 3 false = (1, 0) := by decide
                go_wp2_with (first | (go_at_call 8; refine (control_r _ _ _ _ _ (Lib.hid ec)).mono ?_; rintro e w3 ⟨rfl, rfl⟩; dsimp only) | (go_roundg (m - (i + 1)); refine ⟨(i + 1), 1, 0, by omega, by go_num, rfl, rfl, rfl, fun _ => .inr ⟨by omega, rfl⟩, HK3.out⟩))
                all_goals (have := HI.out; omega)
              · have ec : ctl 1 3 true = (1, 0) := by decide
                go_wp2_with (first | (go_at_call 8; refine (control_r _ _ _ _ _ (Lib.hid ec)).mono ?_; rintro e w3 ⟨rfl, rfl⟩; dsimp only) | (go_roundg (m - (i + 1)); refine ⟨(i + 1), 1, 0, by omega, by go_num, rfl, rfl, rfl, fun _ => .inr ⟨by omega, rfl⟩, HK3.out⟩))
                all_goals (have := HI.out; omega)
              · have ec : ctl 1 33 false = (1, 0) := by decide
                go_wp2_with (first | (go_at_call 8; refine (control_r _ _ _ _ _ (Lib.hid ec)).mono ?_; rintro e w3 ⟨rfl, rfl⟩; dsimp only) | (go_roundg (m - (i + 1)); refine ⟨(i + 1), 1, 0, by omega, by go_num, rfl, rfl, rfl, fun _ => .inr ⟨by omega, rfl⟩, HK3.out⟩))
                all_goals (have := HI.out; omega)
              · have ec : ctl 1 33 true = (1, 0) := by decide
                go_wp2_with (first | (go_at_call 8; refine (control_r _ _ _ _ _ (Lib.hid ec)).mono ?_; rintro e w3 ⟨rfl, rfl⟩; dsimp only) | (go_roundg (m - (i + 1)); refine ⟨(i + 1), 1, 0, by omega, by go_num, rfl, rfl, rfl, fun _ => .inr ⟨by omega, rfl⟩, HK3.out⟩))
                all_goals (have := HI.out; omega)
              · have ec : ctl 1 64 false = (1, 0) := by decide
                go_wp2_with (first | (go_at_call 8; refine (control_r _ _ _ _ _ (Lib.hid ec)).mono ?_; rintro e w3 ⟨rfl, rfl⟩; dsimp only) | (go_roundg (m - (i + 1)); refine ⟨(i + 1), 1, 0, by omega, by go_num, rfl, rfl, rfl, fun _ => .inr ⟨by omega, rfl⟩, HK3.out⟩))
                all_goals (have := HI.out; omega)
              · have ec : ctl 1 64 true = (1, 0) := by decide
                go_wp2_with (first | (go_at_call 8; refine (control_r _ _ _ _ _ (Lib.hid ec)).mono ?_; rintro e w3 ⟨rfl, rfl⟩; dsimp only) | (go_roundg (m - (i + 1)); refine ⟨(i + 1), 1, 0, by omega, by go_num, rfl, rfl, rfl, fun _ => .inr ⟨by omega, rfl⟩, HK3.out⟩))
                all_goals (have := HI.out; omega)
            · rcases (show (c : Int) % 8 = 0 ∨ (c : Int) % 8 = 1 ∨ (c : Int) % 8 = 2 ∨ (c : Int) % 8 = 3 ∨ (c : Int) % 8 = 4 ∨ (c : Int) % 8 = 5 ∨ (c : Int) % 8 = 6 ∨ (c : Int) % 8 = 7 by omega) with h8 | h8 | h8 | h8 | h8 | h8 | h8 | h8 <;> cases srv
              · have ec : ctl 1 4 false = (1, 9) := by decide
                go_wp2_with (first | (go_at_call 8; refine (control_r _ _ _ _ _ (Lib.hid ec)).mono ?_; rintro e w3 ⟨rfl, rfl⟩; dsimp only) | (go_roundg (m - (i + 1)); refine ⟨(i + 1), 1, 9, by omega, by go_num, rfl, rfl, rfl, fun h => absurd h (by decide), HK2.out⟩))
                all_goals (have := HI.out; omega)
              · have ec : ctl 1 4 true = (1, 9) := by decide
                go_wp2_with (first | (go_at_call 8; refine (control_r _ _ _ _ _ (Lib.hid ec)).mono ?_; rintro e w3 ⟨rfl, rfl⟩; dsimp only) | (go_roundg (m - (i + 1)); refine ⟨(i + 1), 1, 9, by omega, by go_num, rfl, rfl, rfl, fun h => absurd h (by decide), HK2.out⟩))
                all_goals (have := HI.out; omega)
              · have ec : ctl 1 7 false = (1, 0) := by decide
                go_wp2_with (first | (go_at_call 8; refine (control_r _ _ _ _ _ (Lib.hid ec)).mono ?_; rintro e w3 ⟨rfl, rfl⟩; dsimp only) | (go_roundg (m - (i + 1)); refine ⟨(i + 1), 1, 0, by omega, by go_num, rfl, rfl, rfl, fun _ => .inr ⟨by omega, rfl⟩, HK2.out⟩))
                all_goals (have := HI.out; omega)
              · have ec : ctl 1 7 true = (1, 0) := by decide
                go_wp2_with (first | (go_at_call 8; refine (control_r _ _ _ _ _ (Lib.hid ec)).mono ?_; rintro e w3 ⟨rfl, rfl⟩; dsimp only) | (go_roundg (m - (i + 1)); refine ⟨(i + 1), 1, 0, by omega, by go_num, rfl, rfl, rfl, fun _ => .inr ⟨by omega, rfl⟩, HK2.out⟩))
                all_goals (have := HI.out; omega)
              · have ec : ctl 1 3 false = (1, 0) := by decide
                go_wp2_with (first | (go_at_call 8; refine (control_r _ _ _ _ _ (Lib.hid ec)).mono ?_; rintro e w3 ⟨rfl, rfl⟩; dsimp only) | (go_roundg (m - (i + 1)); refine ⟨(i + 1), 1, 0, by omega, by go_num, rfl, rfl, rfl, fun _ => .inr ⟨by omega, rfl⟩, HK2.out⟩))
                all_goals (have := HI.out; omega)
              · have ec : ctl 1 3 true = (1, 0) := by decide
                go_wp2_with (first | (go_at_call 8; refine (control_r _ _ _ _ _ (Lib.hid ec)).mono ?_; rintro e w3 ⟨rfl, rfl⟩; dsimp only) | (go_roundg (m - (i + 1)); refine ⟨(i + 1), 1, 0, by omega, by go_num, rfl, rfl, rfl, fun _ => .inr ⟨by omega, rfl⟩, HK2.out⟩))
                all_goals (have := HI.out; omega)
              · have ec : ctl 1 13 false = (1, 9) := by decide
                go_wp2_with (first | (go_at_call 8; refine (control_r _ _ _ _ _ (Lib.hid ec)).mono ?_; rintro e w3 ⟨rfl, rfl⟩; dsimp only) | (go_roundg (m - (i + 1)); refine ⟨(i + 1), 1, 9, by omega, by go_num, rfl, rfl, rfl, fun h => absurd h (by decide), HK2.out⟩))
                all_goals (have := HI.out; omega)
              · have ec : ctl 1 13 true = (1, 0) := by decide
                go_wp2_with (first | (go_at_call 8; refine (control_r _ _ _ _ _ (Lib.hid ec)).mono ?_; rintro e w3 ⟨rfl, rfl⟩; dsimp only) | (go_roundg (m - (i + 1)); refine ⟨(i + 1), 1, 0, by omega, by go_num, rfl, rfl, rfl, fun _ => .inr ⟨by omega, rfl⟩, HK2.out⟩))
                all_goals (have := HI.out; omega)
              · have ec : ctl 1 33 false = (1, 0) := by decide
                go_wp2_with (first | (go_at_call 8; refine (control_r _ _ _ _ _ (Lib.hid ec)).mono ?_; rintro e w3 ⟨rfl, rfl⟩; dsimp only) | (go_roundg (m - (i + 1)); refine ⟨(i + 1), 1, 0, by omega, by go_num, rfl, rfl, rfl, fun _ => .inr ⟨by omega, rfl⟩, HK2.out⟩))
                all_goals (have := HI.out; omega)
              · have ec : ctl 1 33 true = (1, 0) := by decide
                go_wp2_with (first | (go_at_call 8; refine (control_r _ _ _ _ _ (Lib.hid ec)).mono ?_; rintro e w3 ⟨rfl, rfl⟩; dsimp only) | (go_roundg (m - (i + 1)); refine ⟨(i + 1), 1, 0, by omega, by go_num, rfl, rfl, rfl, fun _ => .inr ⟨by omega, rfl⟩, HK2.out⟩))
                all_goals (have := HI.out; omega)
              · have ec : ctl 1 0 false = (1, 9) := by decide
                go_wp2_with (first | (go_at_call 8; refine (control_r _ _ _ _ _ (Lib.hid ec)).mono ?_; rintro e w3 ⟨rfl, rfl⟩; dsimp only) | (go_roundg (m - (i + 1)); refine ⟨(i + 1), 1, 9, by omega, by go_num, rfl, rfl, rfl, fun h => absurd h (by decide), HK2.out⟩))
                all_goals (have := HI.out; omega)
              · have ec : ctl 1 0 true = (1, 9) := by decide
                go_wp2_with (first | (go_at_call 8; refine (control_r _ _ _ _ _ (Lib.hid ec)).mono ?_; rintro e w3 ⟨rfl, rfl⟩; dsimp only) | (go_roundg (m - (i + 1)); refine ⟨(i + 1), 1, 9, by omega, by go_num, rfl, rfl, rfl, fun h => absurd h (by decide), HK2.out⟩))
                all_goals (have := HI.out; omega)
              · have ec : ctl 1 1 false = (1, 9) := by decide
                go_wp2_with (first | (go_at_call 8; refine (control_r _ _ _ _ _ (Lib.hid ec)).mono ?_; rintro e w3 ⟨rfl, rfl⟩; dsimp only) | (go_roundg (m - (i + 1)); refine ⟨(i + 1), 1, 9, by omega, by go_num, rfl, rfl, rfl, fun h => absurd h (by decide), HK2.out⟩))
                all_goals (have := HI.out; omega)
              · have ec : ctl 1 1 true = (1, 9) := by decide
                go_wp2_with (first | (go_at_call 8; refine (control_r _ _ _ _ _ (Lib.hid ec)).mono ?_; rintro e w3 ⟨rfl, rfl⟩; dsimp only) | (go_roundg (m - (i + 1)); refine ⟨(i + 1), 1, 9, by omega, by go_num, rfl, rfl, rfl, fun h => absurd h (by decide), HK2.out⟩))
                all_goals (have := HI.out; omega)
              · have ec : ctl 1 2 false = (1, 9) := by decide
                go_wp2_with (first | (go_at_call 8; refine (control_r _ _ _ _ _ (Lib.hid ec)).mono ?_; rintro e w3 ⟨rfl, rfl⟩; dsimp only) | (go_roundg (m - (i + 1)); refine ⟨(i + 1), 1, 9, by omega, by go_num, rfl, rfl, rfl, fun h => absurd h (by decide), HK2.out⟩))
                all_goals (have := HI.out; omega)
              · have ec : ctl 1 2 true = (1, 9) := by decide
                go_wp2_with (first | (go_at_call 8; refine (control_r _ _ _ _ _ (Lib.hid ec)).mono ?_; rintro e w3 ⟨rfl, rfl⟩; dsimp only) | (go_roundg (m - (i + 1)); refine ⟨(i + 1), 1, 9, by omega, by go_num, rfl, rfl, rfl, fun h => absurd h (by decide), HK2.out⟩))
                all_goals (have := HI.out; omega)
        · have him : i = m := by have := HI.out; omega
          subst him
          rcases HG.out with ⟨hi0, hs0⟩ | ⟨hi0, hs1⟩
          · subst hs0; subst hi0
            go_wp2_with (go_returns; exact ⟨rfl, HKR.out⟩)
          · subst hs1
            have hii : ((i : Int) == 0) = false := by simp; omega
            go_wp2_with (go_returns; exact ⟨rfl, HKR.out⟩)
      · have hr1 : (r == 0) = false := by simpa using hr
        have hr2 : (r != 0) = true := by simpa using hr
        clear hg
        have HR := Lib.hid hr
        clear hr
        by_cases hlt : i < m
        · go_wp2_with (go_returns; exact ⟨by simp [HR.out], HKR.out⟩)
        · have him : i = m := by have := HI.out; omega
          subst him
          go_wp2_with (go_returns; exact ⟨by simp [HR.out], HKR.out⟩)

end Go.Proofs.Ytaelhcoeejpglaa
