/- The document's own reader of payloads: data and headers with the padding's flag. -/
import Derived.Test.YtcckdahpagkbaaaPayI
namespace Go.Proofs.Ytcckdahpagkbaaa
open Go.RowKit Go.Deep

set_option maxRecDepth 8000 in
set_option maxHeartbeats 3200000 in
theorem refpay_any (t fl : Int) (b o : Nat) (n cap : Nat) (y : UInt8) (ys : List UInt8) (ah : Nat) (w : World) (hx : By w (some ⟨b, o, none⟩) n cap (y :: ys)) (hn : n ≤ 1000000) (hc : (t = 0 ∧ fl = 8 ∧ ah = 1) ∨ (t = 1 ∧ fl = 8 ∧ ah = 1) ∨ (t = 1 ∧ fl = 40 ∧ ah = 6)) (hl : ah ≤ n) :
    Calls Try.prog 10 #[FrV t fl 1 (some ⟨b, o, none⟩) n cap] w fun e w' => Below w.heap.size w w' ∧
      ((n < ah + y.toNat ∧ e = .returned (.tuple #[Py0, .int .i64 6])) ∨
       (ah + y.toNat ≤ n ∧ ∃ a' c', e = .returned (.tuple #[PyV a' (n - y.toNat - ah) c' none 0 0 0 0 0, .int .i64 0]) ∧ By w' a' (n - y.toNat - ah) c' (((y :: ys).drop ah).take (n - y.toNat - ah)) ∧ ∀ bb, a'.map (·.block) = some bb → w.heap.size ≤ bb)) := by
  have HC := Lib.hid hc
  have HX := Lib.hid hx
  have HT : Hid (t = 0 ∨ t = 1) := Lib.hid (by omega)
  have hk0 := ((Below.refl w.heap.size w).alloc (Nat.le_refl _) (.cells #[.int .u8 t, .int .u8 fl, .int .u32 1, .slice (some ⟨b, o, none⟩) n cap] 30 (0, 0))).alloc (by simp) (.cells #[.slice none 0 0, .slice none 0 0, .int .u32 0, .int .u32 0, .int .u32 0] 33 (0, 0))
  have HK0 := Lib.hid (hk0.alloc (by simp; omega) (.cells #[.slice none 0 0, .slice none 0 0, .int .u32 0, .int .u32 0, .int .u32 0] 33 (0, 0)))
  clear hc hx hk0
  unfold FrV
  have HP0 := Lib.hid ((Blk.new (w.alloc (.cells #[.int .u8 t, .int .u8 fl, .int .u32 1, .slice (some ⟨b, o, none⟩) n cap] 30 (0, 0))) #[.slice none 0 0, .slice none 0 0, .int .u32 0, .int .u32 0, .int .u32 0] 33).alloc (.cells #[.slice none 0 0, .slice none 0 0, .int .u32 0, .int .u32 0, .int .u32 0] 33 (0, 0)))
  have HX3 := Lib.hid (((HX.out.alloc (.cells #[.int .u8 t, .int .u8 fl, .int .u32 1, .slice (some ⟨b, o, none⟩) n cap] 30 (0, 0))).alloc (.cells #[.slice none 0 0, .slice none 0 0, .int .u32 0, .int .u32 0, .int .u32 0] 33 (0, 0))).alloc (.cells #[.slice none 0 0, .slice none 0 0, .int .u32 0, .int .u32 0, .int .u32 0] 33 (0, 0)))
  simp only [World.size_alloc] at HP0
  rcases HT.out with rfl | rfl
  · go_enter Try.func10, Try.ntmps10
    go_wp2_with fail
    refine (refpad_any _ fl 1 b o n cap y ys ah _ HX3.out hn (by simpa using HC.out) hl).mono ?_
    rintro e w1 ⟨hk1, hlr⟩
    have HP1 := Lib.hid ((Below.keeps hk1).blk HP0.out (by simp; omega))
    have HK1 := Lib.hid (HK0.out.trans (hk1.mono HK0.out.size))
    have HS1 : Hid (w.heap.size + 3 ≤ w1.heap.size) := Lib.hid (by have := hk1.size; simp only [World.size_alloc] at this; omega)
    clear hk1
    rcases hlr with ⟨hlt, rfl⟩ | ⟨hge, a6, c6, rfl, hy, hge6⟩
    · unfold Py0 PyV
      (
        have HPF := Lib.hid (pay_set HP1.out (.slice none 0 0) (.slice none 0 0) (.int .u32 0) (.int .u32 0) (.int .u32 0))
        have hkB := pay_keep w1 (w.heap.size + 1) (.slice none 0 0) (.slice none 0 0) (.int .u32 0) (.int .u32 0) (.int .u32 0)
        have HKF := Lib.hid (Keeps.below HK1.out hkB HK1.out.size (fun k hk => by omega))
        obtain ⟨⟨q0, q1, q2, q3, q4⟩, y0, y1, y2, y3, y4⟩ := pay_cells HP1.out
        clear hkB
        go_wp2_with fail
        clear q0 q1 q2 q3 q4 y0 y1 y2 y3 y4
        obtain ⟨⟨s0, s1, s2, s3, s4⟩, _⟩ := pay_cells HPF.out
        (try simp only [Exit.inBlock, Exit.then])
        refine bodyPost_ret (by simp [results, Try.results10, go_sem, s0, s1, s2, s3, s4]; try rfl) rfl ?_
        exact ⟨HKF.out, .inl ⟨hlt, rfl⟩⟩)
    · unfold PyV
      have HY1 := Lib.hid hy
      have HGE : Hid (∀ bb, a6.map (·.block) = some bb → w.heap.size + 3 ≤ bb) := Lib.hid (fun bb hb => by have := hge6 bb hb; simp only [World.size_alloc] at this; omega)
      clear hy hge6
      (
        have HPF := Lib.hid (pay_set HP1.out (.slice a6 (n - y.toNat - ah) c6) (.slice none 0 0) (.int .u32 0) (.int .u32 0) (.int .u32 0))
        have hkB := pay_keep w1 (w.heap.size + 1) (.slice a6 (n - y.toNat - ah) c6) (.slice none 0 0) (.int .u32 0) (.int .u32 0) (.int .u32 0)
        have HKF := Lib.hid (Keeps.below HK1.out hkB HK1.out.size (fun k hk => by omega))
        obtain ⟨⟨q0, q1, q2, q3, q4⟩, y0, y1, y2, y3, y4⟩ := pay_cells HP1.out
        have HYF := Lib.hid (HY1.out.keep hkB (fun bb hb e => by have := HGE.out bb hb; omega))
        clear hkB
        go_wp2_with fail
        clear q0 q1 q2 q3 q4 y0 y1 y2 y3 y4
        obtain ⟨⟨s0, s1, s2, s3, s4⟩, _⟩ := pay_cells HPF.out
        (try simp only [Exit.inBlock, Exit.then])
        refine bodyPost_ret (by simp [results, Try.results10, go_sem, s0, s1, s2, s3, s4]; try rfl) rfl ?_
        exact ⟨HKF.out, .inr ⟨hge, a6, c6, rfl, HYF.out, fun bb hb => by have := HGE.out bb hb; omega⟩⟩)
  · go_enter Try.func10, Try.ntmps10
    go_wp2_with fail
    refine (refpad_any _ fl 1 b o n cap y ys ah _ HX3.out hn (by simpa using HC.out) hl).mono ?_
    rintro e w1 ⟨hk1, hlr⟩
    have HP1 := Lib.hid ((Below.keeps hk1).blk HP0.out (by simp; omega))
    have HK1 := Lib.hid (HK0.out.trans (hk1.mono HK0.out.size))
    have HS1 : Hid (w.heap.size + 3 ≤ w1.heap.size) := Lib.hid (by have := hk1.size; simp only [World.size_alloc] at this; omega)
    clear hk1
    rcases hlr with ⟨hlt, rfl⟩ | ⟨hge, a6, c6, rfl, hy, hge6⟩
    · unfold Py0 PyV
      (
        have HPF := Lib.hid (pay_set HP1.out (.slice none 0 0) (.slice none 0 0) (.int .u32 0) (.int .u32 0) (.int .u32 0))
        have hkB := pay_keep w1 (w.heap.size + 1) (.slice none 0 0) (.slice none 0 0) (.int .u32 0) (.int .u32 0) (.int .u32 0)
        have HKF := Lib.hid (Keeps.below HK1.out hkB HK1.out.size (fun k hk => by omega))
        obtain ⟨⟨q0, q1, q2, q3, q4⟩, y0, y1, y2, y3, y4⟩ := pay_cells HP1.out
        clear hkB
        go_wp2_with fail
        clear q0 q1 q2 q3 q4 y0 y1 y2 y3 y4
        obtain ⟨⟨s0, s1, s2, s3, s4⟩, _⟩ := pay_cells HPF.out
        (try simp only [Exit.inBlock, Exit.then])
        refine bodyPost_ret (by simp [results, Try.results10, go_sem, s0, s1, s2, s3, s4]; try rfl) rfl ?_
        exact ⟨HKF.out, .inl ⟨hlt, rfl⟩⟩)
    · unfold PyV
      have HY1 := Lib.hid hy
      have HGE : Hid (∀ bb, a6.map (·.block) = some bb → w.heap.size + 3 ≤ bb) := Lib.hid (fun bb hb => by have := hge6 bb hb; simp only [World.size_alloc] at this; omega)
      clear hy hge6
      (
        have HPF := Lib.hid (pay_set HP1.out (.slice a6 (n - y.toNat - ah) c6) (.slice none 0 0) (.int .u32 0) (.int .u32 0) (.int .u32 0))
        have hkB := pay_keep w1 (w.heap.size + 1) (.slice a6 (n - y.toNat - ah) c6) (.slice none 0 0) (.int .u32 0) (.int .u32 0) (.int .u32 0)
        have HKF := Lib.hid (Keeps.below HK1.out hkB HK1.out.size (fun k hk => by omega))
        obtain ⟨⟨q0, q1, q2, q3, q4⟩, y0, y1, y2, y3, y4⟩ := pay_cells HP1.out
        have HYF := Lib.hid (HY1.out.keep hkB (fun bb hb e => by have := HGE.out bb hb; omega))
        clear hkB
        go_wp2_with fail
        clear q0 q1 q2 q3 q4 y0 y1 y2 y3 y4
        obtain ⟨⟨s0, s1, s2, s3, s4⟩, _⟩ := pay_cells HPF.out
        (try simp only [Exit.inBlock, Exit.then])
        refine bodyPost_ret (by simp [results, Try.results10, go_sem, s0, s1, s2, s3, s4]; try rfl) rfl ?_
        exact ⟨HKF.out, .inr ⟨hge, a6, c6, rfl, HYF.out, fun bb hb => by have := HGE.out bb hb; omega⟩⟩)

end Go.Proofs.Ytcckdahpagkbaaa
