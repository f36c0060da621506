/- The document's reader of payloads: headers, continuations. -/
import Derived.Test.YtcfljnlfikkhaaaBlkR
namespace Go.Proofs.Ytcfljnlfikkhaaa
open Go.RowKit Go.Deep

theorem refpadded_any (fl st : Int) (a : Option Addr) (n cap : Nat) (xs : List UInt8) (w : World) (hx : By w a n cap xs) (hn : n ≤ 1000000) :
    Calls Try.prog 26 #[FrV 1 fl st a n cap] w (PayP 1 fl 1 xs w) := by
  cases hp : (bits .and .u8 fl 8 != 0) with
  | true =>
    cases hq : (bits .and .u8 fl 32 != 0) with
    | true => exact refpad_tt fl st a n cap xs w hx hn hp hq
    | false => exact refpad_tf fl st a n cap xs w hx hn hp hq
  | false =>
    cases hq : (bits .and .u8 fl 32 != 0) with
    | true => exact refpad_ft fl st a n cap xs w hx hn hp hq
    | false => exact refpad_ff fl st a n cap xs w hx hn hp hq

set_option maxRecDepth 8000 in
set_option maxHeartbeats 3200000 in
theorem refzero_1 (fl : Int) (a : Option Addr) (n cap : Nat) (xs : List UInt8) (w : World) :
    Calls Try.prog 17 #[FrV 1 fl 0 a n cap] w (PayP 1 fl 0 xs w) := by
  have HQ : Hid (payQ 1 fl 0 xs = 2) := by show _ = _; unfold payQ; rw [if_pos rfl]
  have HZ := Lib.hid (pay_cells (Blk.new (w.alloc (.cells #[.int .u8 1, .int .u8 fl, .int .u32 0, .slice a n cap] 33 (0, 0))) #[.slice none 0 0, .slice none 0 0, .int .u32 0, .int .u32 0, .int .u32 0] 49))
  have HKE := Lib.hid (((Below.refl w.heap.size w).alloc (Nat.le_refl _) (.cells #[.int .u8 1, .int .u8 fl, .int .u32 0, .slice a n cap] 33 (0, 0))).alloc (by simp) (.cells #[.slice none 0 0, .slice none 0 0, .int .u32 0, .int .u32 0, .int .u32 0] 49 (0, 0)))
  simp only [World.size_alloc] at HZ
  unfold FrV
  go_enter Try.func17, Try.ntmps17
  go_wp2_with fail
  exact bodyPost_ret (by simp [results, Try.results17, go_sem, HZ.out.1.1, HZ.out.1.2.1, HZ.out.1.2.2.1, HZ.out.1.2.2.2.1, HZ.out.1.2.2.2.2]; try rfl) rfl ⟨none, 0, 0, [], by rw [HQ.out]; rfl, By.nil _, by rw [HQ.out]; intro h; omega, by simp, HKE.out⟩

set_option maxRecDepth 8000 in
set_option maxHeartbeats 3200000 in
theorem refzero_9 (fl : Int) (a : Option Addr) (n cap : Nat) (xs : List UInt8) (w : World) :
    Calls Try.prog 17 #[FrV 9 fl 0 a n cap] w (PayP 9 fl 0 xs w) := by
  have HQ : Hid (payQ 9 fl 0 xs = 2) := by show _ = _; unfold payQ; rw [if_pos rfl]
  have HZ := Lib.hid (pay_cells (Blk.new (w.alloc (.cells #[.int .u8 9, .int .u8 fl, .int .u32 0, .slice a n cap] 33 (0, 0))) #[.slice none 0 0, .slice none 0 0, .int .u32 0, .int .u32 0, .int .u32 0] 49))
  have HKE := Lib.hid (((Below.refl w.heap.size w).alloc (Nat.le_refl _) (.cells #[.int .u8 9, .int .u8 fl, .int .u32 0, .slice a n cap] 33 (0, 0))).alloc (by simp) (.cells #[.slice none 0 0, .slice none 0 0, .int .u32 0, .int .u32 0, .int .u32 0] 49 (0, 0)))
  simp only [World.size_alloc] at HZ
  unfold FrV
  go_enter Try.func17, Try.ntmps17
  go_wp2_with fail
  exact bodyPost_ret (by simp [results, Try.results17, go_sem, HZ.out.1.1, HZ.out.1.2.1, HZ.out.1.2.2.1, HZ.out.1.2.2.2.1, HZ.out.1.2.2.2.2]; try rfl) rfl ⟨none, 0, 0, [], by rw [HQ.out]; rfl, By.nil _, by rw [HQ.out]; intro h; omega, by simp, HKE.out⟩

set_option maxRecDepth 8000 in
set_option maxHeartbeats 3200000 in
theorem refpay_1 (fl st : Int) (a : Option Addr) (n cap : Nat) (xs : List UInt8) (w : World) (hx : By w a n cap xs) (hn : n ≤ 1000000) (hst : (st == 0) = false) :
    Calls Try.prog 17 #[FrV 1 fl st a n cap] w (PayP 1 fl st xs w) := by
  have hst' : st ≠ 0 := by simpa using hst
  have HQ : Hid (payQ 1 fl st xs = payQ 1 fl 1 xs) := by show _ = _; unfold payQ; rw [if_neg hst', if_neg (show ¬ ((1 : Int) = 0) by decide)]
  have hk0 := ((Below.refl w.heap.size w).alloc (Nat.le_refl _) (.cells #[.int .u8 1, .int .u8 fl, .int .u32 st, .slice a n cap] 33 (0, 0))).alloc (by simp) (.cells #[.slice none 0 0, .slice none 0 0, .int .u32 0, .int .u32 0, .int .u32 0] 49 (0, 0))
  have HK0 := Lib.hid (hk0.alloc (by simp; omega) (.cells #[.slice none 0 0, .slice none 0 0, .int .u32 0, .int .u32 0, .int .u32 0] 49 (0, 0)))
  have HP0 := Lib.hid ((Blk.new (w.alloc (.cells #[.int .u8 1, .int .u8 fl, .int .u32 st, .slice a n cap] 33 (0, 0))) #[.slice none 0 0, .slice none 0 0, .int .u32 0, .int .u32 0, .int .u32 0] 49).alloc (.cells #[.slice none 0 0, .slice none 0 0, .int .u32 0, .int .u32 0, .int .u32 0] 49 (0, 0)))
  have HX3 := Lib.hid (((hx.alloc (.cells #[.int .u8 1, .int .u8 fl, .int .u32 st, .slice a n cap] 33 (0, 0))).alloc (.cells #[.slice none 0 0, .slice none 0 0, .int .u32 0, .int .u32 0, .int .u32 0] 49 (0, 0))).alloc (.cells #[.slice none 0 0, .slice none 0 0, .int .u32 0, .int .u32 0, .int .u32 0] 49 (0, 0)))
  simp only [World.size_alloc] at HP0
  clear hx hk0 hst'
  unfold FrV
  go_enter Try.func17, Try.ntmps17
  go_wp2_with fail
  refine (refpadded_any fl st a n cap xs _ HX3.out hn).mono ?_
  rintro e w1 ⟨a6, m6, c6, ys, rfl, hy, hq6, hg6, hk1⟩
  have HP1 := Lib.hid ((Below.keeps hk1).blk HP0.out (by simp; omega))
  have HK1 := Lib.hid (HK0.out.trans (hk1.mono HK0.out.size))
  have HS1 : Hid (w.heap.size + 3 ≤ w1.heap.size) := Lib.hid (by have := hk1.size; simp only [World.size_alloc] at this; omega)
  have HY1 := Lib.hid hy
  have HQ6 := Lib.hid hq6
  have HGE : Hid (∀ bb, a6.map (·.block) = some bb → w.heap.size + 3 ≤ bb) := Lib.hid (fun bb hb => by have := hg6 bb hb; simp only [World.size_alloc] at this; omega)
  clear hk1 hy hq6 hg6
  generalize hqq : payQ 1 fl 1 xs = q at *
  unfold PyV
  have HPF := Lib.hid (pay_set HP1.out (.slice a6 m6 c6) (.slice none 0 0) (.int .u32 0) (.int .u32 0) (.int .u32 0))
  have hkB := pay_keep w1 (w.heap.size + 1) (.slice a6 m6 c6) (.slice none 0 0) (.int .u32 0) (.int .u32 0) (.int .u32 0)
  have HKF := Lib.hid (Keeps.below HK1.out hkB HK1.out.size (fun k hk => by omega))
  obtain ⟨⟨q0, q1, q2, q3, q4⟩, y0, y1, y2, y3, y4⟩ := pay_cells HP1.out
  have HYF := Lib.hid (HY1.out.keep hkB (fun bb hb e => by have := HGE.out bb hb; omega))
  clear hkB hqq
  go_wp2_with fail
  clear q0 q1 q2 q3 q4 y0 y1 y2 y3 y4
  obtain ⟨⟨s0, s1, s2, s3, s4⟩, _⟩ := pay_cells HPF.out
  (try simp only [Exit.inBlock, Exit.then])
  refine bodyPost_ret (by simp [results, Try.results17, go_sem, s0, s1, s2, s3, s4]; try rfl) rfl ?_
  exact ⟨a6, m6, c6, ys, by rw [HQ.out]; rfl, HYF.out, by rw [HQ.out]; exact HQ6.out, fun bb hb => by have := HGE.out bb hb; omega, HKF.out⟩

set_option maxRecDepth 8000 in
set_option maxHeartbeats 3200000 in
theorem refpay_9 (fl st : Int) (a : Option Addr) (n cap : Nat) (xs : List UInt8) (w : World) (hx : By w a n cap xs) (hn : n ≤ 1000000) (hst : (st == 0) = false) :
    Calls Try.prog 17 #[FrV 9 fl st a n cap] w (PayP 9 fl st xs w) := by
  have hst' : st ≠ 0 := by simpa using hst
  have HQ : Hid (payQ 9 fl st xs = 0) := by show _ = _; unfold payQ; rw [if_neg hst', if_pos rfl]
  have hk0 := ((Below.refl w.heap.size w).alloc (Nat.le_refl _) (.cells #[.int .u8 9, .int .u8 fl, .int .u32 st, .slice a n cap] 33 (0, 0))).alloc (by simp) (.cells #[.slice none 0 0, .slice none 0 0, .int .u32 0, .int .u32 0, .int .u32 0] 49 (0, 0))
  have HK2 := Lib.hid (hk0.alloc (by simp; omega) (.cells #[.slice none 0 0, .slice none 0 0, .int .u32 0, .int .u32 0, .int .u32 0] 49 (0, 0)))
  have HP := Lib.hid ((Blk.new (w.alloc (.cells #[.int .u8 9, .int .u8 fl, .int .u32 st, .slice a n cap] 33 (0, 0))) #[.slice none 0 0, .slice none 0 0, .int .u32 0, .int .u32 0, .int .u32 0] 49).alloc (.cells #[.slice none 0 0, .slice none 0 0, .int .u32 0, .int .u32 0, .int .u32 0] 49 (0, 0)))
  have HR := Lib.hid (Blk.new ((w.alloc (.cells #[.int .u8 9, .int .u8 fl, .int .u32 st, .slice a n cap] 33 (0, 0))).alloc (.cells #[.slice none 0 0, .slice none 0 0, .int .u32 0, .int .u32 0, .int .u32 0] 49 (0, 0))) #[.slice none 0 0, .slice none 0 0, .int .u32 0, .int .u32 0, .int .u32 0] 49)
  have HX3 := Lib.hid (((hx.alloc (.cells #[.int .u8 9, .int .u8 fl, .int .u32 st, .slice a n cap] 33 (0, 0))).alloc (.cells #[.slice none 0 0, .slice none 0 0, .int .u32 0, .int .u32 0, .int .u32 0] 49 (0, 0))).alloc (.cells #[.slice none 0 0, .slice none 0 0, .int .u32 0, .int .u32 0, .int .u32 0] 49 (0, 0)))
  simp only [World.size_alloc] at HP HR
  clear hx hk0 hst'
  unfold FrV
  go_enter Try.func17, Try.ntmps17
  go_wp2_with (at_builtin; refine halt ?_)
  refine Halted.go (wpList_copy8 _ rfl _ rfl _ n _ xs rfl HX3.out (by omega) ?_)
  intro a6 c6 w6 ho6 hk6
  have HR6 := Lib.hid ((Below.keeps hk6).blk HR.out (by simp))
  have HP6 := Lib.hid ((Below.keeps hk6).blk HP.out (by simp; omega))
  have HK6 := Lib.hid (HK2.out.trans (hk6.mono HK2.out.size))
  have HGE : Hid (∀ bb, a6.map (·.block) = some bb → w.heap.size + 3 ≤ bb) := Lib.hid (fun bb hb => by
    have h := (ho6.ge bb hb).1
    change (World.alloc _ _).heap.size ≤ bb at h
    simp only [World.size_alloc] at h
    omega)
  have HY6 := Lib.hid ho6.by
  clear ho6 hk6
  have HPF := Lib.hid (pay_set (((Keeps.refl (fun k => k = w.heap.size + 1 + 1) w6).put 0 (.slice a6 n c6)).blk HP6.out (by simp)) (.slice a6 n c6) (.slice none 0 0) (.int .u32 0) (.int .u32 0) (.int .u32 0))
  have hkA := ((Keeps.refl (fun k => k = w.heap.size + 1 + 1) w6).put 0 (.slice a6 n c6))
  have hkB := pay_keep (w6.setCell ⟨w.heap.size + 1 + 1, 0, none⟩ (.slice a6 n c6)) (w.heap.size + 1) (.slice a6 n c6) (.slice none 0 0) (.int .u32 0) (.int .u32 0) (.int .u32 0)
  have HYF := Lib.hid ((HY6.out.keep hkA (fun bb hb e => by have := HGE.out bb hb; omega)).keep hkB (fun bb hb e => by have := HGE.out bb hb; omega))
  have HKA := Lib.hid (Keeps.below HK6.out hkA HK6.out.size (fun k hk => by omega))
  have HKF := Lib.hid (Keeps.below HKA.out hkB HKA.out.size (fun k hk => by omega))
  clear hkA hkB HK6 HKA HY6
  obtain ⟨⟨p0, p1, p2, p3, p4⟩, z0, z1, z2, z3, z4⟩ := pay_cells HR6.out
  obtain ⟨⟨q0, q1, q2, q3, q4⟩, y0, y1, y2, y3, y4⟩ := pay_cells HP6.out
  go_wp2_with fail
  clear p0 p1 p2 p3 p4 z0 z1 z2 z3 z4 q0 q1 q2 q3 q4 y0 y1 y2 y3 y4
  obtain ⟨⟨s0, s1, s2, s3, s4⟩, _⟩ := pay_cells HPF.out
  (try simp only [Exit.inBlock, Exit.then])
  refine bodyPost_ret (by simp [results, Try.results17, go_sem, s0, s1, s2, s3, s4]; try rfl) rfl ?_
  exact ⟨a6, n, c6, xs, by rw [HQ.out]; rfl, HYF.out, fun _ => by unfold payX; rw [if_pos rfl], fun bb hb => by have := HGE.out bb hb; omega, HKF.out⟩

theorem refpay_any (t fl st : Int) (a : Option Addr) (n cap : Nat) (xs : List UInt8) (w : World) (hx : By w a n cap xs) (hn : n ≤ 1000000) (ht : t = 1 ∨ t = 9) :
    Calls Try.prog 17 #[FrV t fl st a n cap] w (PayP t fl st xs w) := by
  by_cases hs : st = 0
  · subst hs
    rcases ht with rfl | rfl
    · exact refzero_1 fl a n cap xs w
    · exact refzero_9 fl a n cap xs w
  · rcases ht with rfl | rfl
    · exact refpay_1 fl st a n cap xs w hx hn (by simpa using hs)
    · exact refpay_9 fl st a n cap xs w hx hn (by simpa using hs)

end Go.Proofs.Ytcfljnlfikkhaaa
