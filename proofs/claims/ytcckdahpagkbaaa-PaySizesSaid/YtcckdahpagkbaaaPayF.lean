/- A settings' frame of one setting; known. -/
import Derived.Test.YtcckdahpagkbaaaPayE
import Derived.Test.YtcckdahpagkbaaaPayA
import Derived.Deep.RegionHeld3
import Derived.Deep.RegionWith
import Derived.Deep.DeepMust
import Derived.Deep.DeepCutAuto
namespace Go.Proofs.Ytcckdahpagkbaaa
open Go.RowKit Go.Deep

set_option maxHeartbeats 1600000 in
theorem settings_one (b : Nat) (w : World) (hb : Blk w b #[.int .u64 4, .int .u64 5] 42) :
    Calls Try.prog 13 #[.slice (some ⟨b, 0, none⟩) 1 1] w fun e w' => ∃ a' c', e = .returned (FrV 4 0 0 a' 6 c') ∧ Below w.heap.size w w' := by
  have hlt := hb.lt
  have hb0 := (Blk.new w #[.int .u8 0, .int .u8 0, .int .u32 0, .slice none 0 0] 30).alloc (.cells #[.int .u8 4, .int .u8 0, .int .u32 0, .slice none 0 0] 30 (0, 0))
  have hb1 := Blk.new (w.alloc (.cells #[.int .u8 0, .int .u8 0, .int .u32 0, .slice none 0 0] 30 (0, 0))) #[.int .u8 4, .int .u8 0, .int .u32 0, .slice none 0 0] 30
  rw [World.size_alloc] at hb1
  have hs0 : ((w.alloc (.cells #[.int .u8 0, .int .u8 0, .int .u32 0, .slice none 0 0] 30 (0, 0))).alloc (.cells #[.int .u8 4, .int .u8 0, .int .u32 0, .slice none 0 0] 30 (0, 0))).heap.size = w.heap.size + 2 := by simp
  have hk0 := ((Below.refl w.heap.size w).alloc (Nat.le_refl _) (.cells #[.int .u8 0, .int .u8 0, .int .u32 0, .slice none 0 0] 30 (0, 0))).alloc (by simp) (.cells #[.int .u8 4, .int .u8 0, .int .u32 0, .slice none 0 0] 30 (0, 0))
  have HB0 := Lib.hid hb0
  have HB1 := Lib.hid hb1
  have HS0 := Lib.hid hs0
  have HK0 := Lib.hid hk0
  have HB := Lib.hid hb
  clear hb0 hb1 hs0 hk0 hb
  go_enter Try.func13, Try.ntmps13
  go_wp2_with fail
  generalize (w.alloc (.cells #[.int .u8 0, .int .u8 0, .int .u32 0, .slice none 0 0] 30 (0, 0))).alloc (.cells #[.int .u8 4, .int .u8 0, .int .u32 0, .slice none 0 0] 30 (0, 0)) = w0 at *
  go_loopg [9] 1 (fun k vi wr => ∃ (j n' : Nat) (a' : Option Addr) (c' : Nat), k + j = 1 ∧ n' = 6 * j ∧ vi = .int .i64 j ∧ (j = 0 → a' = none ∧ c' = 0) ∧ Blk wr (w.heap.size + 1) #[.int .u8 4, .int .u8 0, .int .u32 0, .slice a' n' c'] 30 ∧ Blk wr w.heap.size #[.int .u8 0, .int .u8 0, .int .u32 0, .slice none 0 0] 30 ∧ Below w.heap.size w wr ∧ w.heap.size + 2 ≤ wr.heap.size)
  case atStart => exact ⟨0, 0, none, 0, by omega, rfl, rfl, fun _ => ⟨rfl, rfl⟩, HB1.out, HB0.out, HK0.out, by rw [HS0.out]; omega⟩
  case round =>
    obtain ⟨j, n', a', c', hj, hn', rfl, h00, hf, hr, hk, hsz⟩ := hrel
    have HF := Lib.hid hf
    have HR := Lib.hid hr
    have HK := Lib.hid hk
    have HJ := Lib.hid hj
    clear hf hr hk hj
    by_cases h0 : j = 0
    · subst h0
      obtain ⟨rfl, rfl⟩ := h00 rfl
      obtain rfl : n' = 0 := by omega
      clear hn' h00
      have hbr := (Below.keeps HK.out).blk HB.out (by omega)
      have q0 : wr.cell? ⟨b, 0, none⟩ = some (.int .u64 4) := hbr.cell 0
      have q1 : wr.cell? ⟨b, 1, none⟩ = some (.int .u64 5) := hbr.cell 1
      clear hbr
      go_upto_region 5 with fail
      have HFA : Hid (Blk (wr.alloc (.cells #[.int .u64 4, .int .u64 5] 42 (0, 0))).drew (w.heap.size + 1) #[.int .u8 4, .int .u8 0, .int .u32 0, .slice none 0 0] 30) := (HF.out.alloc _).drew
      have HRA : Hid (Blk (wr.alloc (.cells #[.int .u64 4, .int .u64 5] 42 (0, 0))).drew w.heap.size #[.int .u8 0, .int .u8 0, .int .u32 0, .slice none 0 0] 30) := (HR.out.alloc _).drew
      have HSA : Hid (Blk (wr.alloc (.cells #[.int .u64 4, .int .u64 5] 42 (0, 0))).drew wr.heap.size #[.int .u64 4, .int .u64 5] 42) := (Blk.new wr _ _).drew
      have HKA : Hid (Below w.heap.size w (wr.alloc (.cells #[.int .u64 4, .int .u64 5] 42 (0, 0))).drew) := (HK.out.alloc (by omega) _).drew
      have hsa : wr.heap.size + 1 ≤ (wr.alloc (.cells #[.int .u64 4, .int .u64 5] 42 (0, 0))).drew.heap.size := by show _ ≤ (wr.alloc (.cells #[.int .u64 4, .int .u64 5] 42 (0, 0))).heap.size; simp
      have f3 : (wr.alloc (.cells #[.int .u64 4, .int .u64 5] 42 (0, 0))).drew.cell? ⟨w.heap.size + 1, 3, none⟩ = some (.slice none 0 0) := HFA.out.cell 3
      have s0 : (wr.alloc (.cells #[.int .u64 4, .int .u64 5] 42 (0, 0))).drew.cell? ⟨wr.heap.size, 0, none⟩ = some (.int .u64 4) := HSA.out.cell 0
      have s1 : (wr.alloc (.cells #[.int .u64 4, .int .u64 5] 42 (0, 0))).drew.cell? ⟨wr.heap.size, 1, none⟩ = some (.int .u64 5) := HSA.out.cell 1
      have hc2 : cnt 2 = 2 := by decide
      have hc4 : cnt 4 = 4 := by decide
      have HC2 := Lib.hid hc2
      have HC4 := Lib.hid hc4
      clear hc2 hc4
      go_region_with (first
        | (go_at_call_of 24 (Value.int IntKind.u64 4)
           go_must (
             refine (big_any none 0 0 [] 4 2 _ (By.nil _) (by omega) (by omega) (by omega)).mono ?_
             rw [HC2.out]
             rintro e w5 ⟨a5, c5, rfl, ho5, hk5⟩
             have HF5 := Lib.hid ((Below.keeps hk5).blk HFA.out (by omega))
             have HR5 := Lib.hid ((Below.keeps hk5).blk HRA.out (by omega))
             have HS5 := Lib.hid ((Below.keeps hk5).blk HSA.out (by omega))
             have HK5 := Lib.hid (HKA.out.trans (hk5.mono HKA.out.size))
             have hs5 : wr.heap.size + 1 ≤ w5.heap.size := Nat.le_trans hsa hk5.size
             have HO5 := Lib.hid ho5.by
             have g3 : w5.cell? ⟨w.heap.size + 1, 3, none⟩ = some (.slice none 0 0) := HF5.out.cell 3
             have t0 : w5.cell? ⟨wr.heap.size, 0, none⟩ = some (.int .u64 4) := HS5.out.cell 0
             have t1 : w5.cell? ⟨wr.heap.size, 1, none⟩ = some (.int .u64 5) := HS5.out.cell 1
             clear ho5 hk5))
        | (go_at_call_of 24 (Value.int IntKind.u64 5)
           go_must (
             refine (big_any a5 2 c5 _ 5 4 w5 HO5.out (by omega) (by omega) (by omega)).mono ?_
             rw [HC4.out]
             rintro e w6 ⟨a6, c6, rfl, ho6, hk6⟩
             have HF6 := Lib.hid ((Below.keeps hk6).blk HF5.out (by omega))
             have HR6 := Lib.hid ((Below.keeps hk6).blk HR5.out (by omega))
             have HS6 := Lib.hid ((Below.keeps hk6).blk HS5.out (by omega))
             have HK6 := Lib.hid (HK5.out.trans (hk6.mono HK5.out.size))
             have hs6 : wr.heap.size + 1 ≤ w6.heap.size := Nat.le_trans hs5 hk6.size
             have y3 : w6.cell? ⟨w.heap.size + 1, 3, none⟩ = some (.slice none 0 0) := HF6.out.cell 3
             have z3 : w6.frozen? ⟨w.heap.size + 1, 3, none⟩ = false := HF6.out.free 3
             have u0 : w6.cell? ⟨wr.heap.size, 0, none⟩ = some (.int .u64 4) := HS6.out.cell 0
             have u1 : w6.cell? ⟨wr.heap.size, 1, none⟩ = some (.int .u64 5) := HS6.out.cell 1
             clear ho6 hk6)))
      all_goals (
        have HFF := Lib.hid ((HF6.out.set 3 (.slice a6 6 c6)).as (cs' := #[.int .u8 4, .int .u8 0, .int .u32 0, .slice a6 6 c6]) rfl)
        have HRF := Lib.hid (HR6.out.set_ne (a := ⟨w.heap.size + 1, 3, none⟩) (by show w.heap.size ≠ w.heap.size + 1; omega) (.slice a6 6 c6))
        have HKF := Lib.hid (HK6.out.setCell (p := ⟨w.heap.size + 1, 3, none⟩) (by show w.heap.size ≤ w.heap.size + 1; omega) (.slice a6 6 c6))
        have HSF : Hid (w.heap.size + 2 ≤ (w6.setCell ⟨w.heap.size + 1, 3, none⟩ (.slice a6 6 c6)).heap.size) := by show _ ≤ _; rw [World.size_setCell]; omega
        clear f3 s0 s1 g3 t0 t1 y3 z3 u0 u1
        generalize w6.setCell ⟨w.heap.size + 1, 3, none⟩ (.slice a6 6 c6) = w7 at *
        go_wp2_with fail
        obtain ⟨g, rfl⟩ : ∃ g, gk = g + 1 := ⟨gk - 1, by have := HJ.out; omega⟩
        go_roundg g
        case measure => omega
        case rel => exact ⟨1, 6, a6, c6, by have := HJ.out; omega, rfl, by go_num, fun h => absurd h (by omega), HFF.out, HRF.out, HKF.out, HSF.out⟩)
    · obtain rfl : j = 1 := by have := HJ.out; omega
      subst hn'
      obtain ⟨⟨f0, f1, f2, f3⟩, _⟩ := fr_cells HF.out
      obtain ⟨⟨p0, p1, p2, p3⟩, z0, z1, z2, z3⟩ := fr_cells HR.out
      have HBF := Lib.hid (fr_set HR.out (.int .u8 4) (.int .u8 0) (.int .u32 0) (.slice a' 6 c'))
      have HKF := Lib.hid (Keeps.below HK.out (fr_keep wr w.heap.size (.int .u8 4) (.int .u8 0) (.int .u32 0) (.slice a' 6 c')) HK.out.size (fun k hk => by omega))
      go_wp2_with fail
      clear f0 f1 f2 f3 p0 p1 p2 p3 z0 z1 z2 z3
      obtain ⟨⟨s0, s1, s2, s3⟩, _⟩ := fr_cells HBF.out
      (try simp only [Exit.inBlock, Exit.then])
      refine bodyPost_ret (by simp [results, Try.results13, go_sem, s0, s1, s2, s3]; try rfl) rfl ?_
      exact ⟨_, _, rfl, HKF.out⟩

end Go.Proofs.Ytcckdahpagkbaaa
