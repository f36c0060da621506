/- The document's reader of padded payloads: headers. -/
import Derived.Test.YtcfljnlfikkhaaaBlkA
import Derived.Test.YtcfljnlfikkhaaaPayI
namespace Go.Proofs.Ytcfljnlfikkhaaa
open Go.RowKit Go.Deep

set_option maxHeartbeats 3200000 in
theorem refpad_ff (fl st : Int) (a : Option Addr) (n cap : Nat) (xs : List UInt8) (w : World) (hx : By w a n cap xs) (hn : n ≤ 1000000) (hp : (bits .and .u8 fl 8 != 0) = false) (hq : (bits .and .u8 fl 32 != 0) = false) :
    Calls Try.prog 26 #[FrV 1 fl st a n cap] w (PayP 1 fl 1 xs w) := by
  have hpp : padP 1 fl = false := by simp [padP, hp]
  have hqq : prioP 1 fl = false := by simp [prioP, hq]
  have ha : aheadI 1 fl = 0 := by unfold aheadI; rw [hpp, hqq]; rfl
  have hl := hx.1
  have hcp := hx.2.le
  have hpi : padI 1 fl xs = 0 := by unfold padI; rw [hpp]; rfl
  have HQ : Hid (payQ 1 fl 1 xs = 0) := by show _ = _; unfold payQ; rw [ha, hpi, if_neg (by decide), if_neg (by decide), if_neg (by omega), if_neg (by omega)]
  have HXX : Hid (xs.take n = payX 1 fl xs) := by show _ = _; unfold payX; rw [ha, hpi, if_neg (by decide), ← hl]; simp
  have HX := Lib.hid (((hx.alloc (.cells #[.int .u8 1, .int .u8 fl, .int .u32 st, .slice a n cap] 33 (0, 0))).alloc (.cells #[.slice none 0 0, .slice none 0 0, .int .u32 0, .int .u32 0, .int .u32 0] 49 (0, 0))).alloc (.cells #[.slice none 0 0, .slice none 0 0, .int .u32 0, .int .u32 0, .int .u32 0] 49 (0, 0)))

  have HK2 := Lib.hid (((((Below.refl w.heap.size w).alloc (Nat.le_refl _) (.cells #[.int .u8 1, .int .u8 fl, .int .u32 st, .slice a n cap] 33 (0, 0))).alloc (by simp) (.cells #[.slice none 0 0, .slice none 0 0, .int .u32 0, .int .u32 0, .int .u32 0] 49 (0, 0))).alloc (by simp; omega) (.cells #[.slice none 0 0, .slice none 0 0, .int .u32 0, .int .u32 0, .int .u32 0] 49 (0, 0))))
  have HR := Lib.hid ((Blk.new ((w.alloc (.cells #[.int .u8 1, .int .u8 fl, .int .u32 st, .slice a n cap] 33 (0, 0))).alloc (.cells #[.slice none 0 0, .slice none 0 0, .int .u32 0, .int .u32 0, .int .u32 0] 49 (0, 0))) #[.slice none 0 0, .slice none 0 0, .int .u32 0, .int .u32 0, .int .u32 0] 49))
  have HP := Lib.hid (((Blk.new (w.alloc (.cells #[.int .u8 1, .int .u8 fl, .int .u32 st, .slice a n cap] 33 (0, 0))) #[.slice none 0 0, .slice none 0 0, .int .u32 0, .int .u32 0, .int .u32 0] 49).alloc (.cells #[.slice none 0 0, .slice none 0 0, .int .u32 0, .int .u32 0, .int .u32 0] 49 (0, 0))))
  simp only [World.size_alloc] at HR HP
  have hw : IntKind.i64.wrap ((n : Int) - 0) = (n : Int) := by rw [IntKind.wrap_i64]; omega
  have hw2 : wrap64 ((n : Int) - 0) = (n : Int) := by unfold wrap64; omega
  have hn0 : decide ((n : Int) < 0) = false := by simp
  clear hx hpp hqq ha hpi hl
  unfold FrV
  go_enter Try.func26, Try.ntmps26
  go_wp2_with (at_builtin; refine halt ?_)
  refine Halted.go (wpList_copy8 _ rfl _ rfl _ (n) _ ((xs).take (n)) rfl (By.pre (n := n) ?_ (by omega)) (by omega) ?_)
  · exact HX.out
  intro a6 c6 w6 ho6 hk6
  have HR6 := Lib.hid ((Below.keeps hk6).blk HR.out (by simp))
  have HP6 := Lib.hid ((Below.keeps hk6).blk HP.out (by simp; omega))
  have HK6 := Lib.hid (HK2.out.trans (hk6.mono HK2.out.size))
  have HGE : Hid (∀ bb, a6.map (·.block) = some bb → w.heap.size + 3 ≤ bb) := Lib.hid (fun bb hb => by
    have h := (ho6.ge bb hb).1
    change (World.alloc _ _).heap.size ≤ bb at h
    simp only [World.size_alloc] at h
    omega)
  have HY6 := Lib.hid ho6.by
  clear ho6 hk6
  have HPF := Lib.hid (pay_set (((Keeps.refl (fun k => k = w.heap.size + 1 + 1) w6).put 0 (.slice a6 n c6)).blk HP6.out (by simp)) (.slice a6 n c6) (.slice none 0 0) (.int .u32 0) (.int .u32 0) (.int .u32 0))
  have hkA := ((Keeps.refl (fun k => k = w.heap.size + 1 + 1) w6).put 0 (.slice a6 n c6))
  have hkB := pay_keep (w6.setCell ⟨w.heap.size + 1 + 1, 0, none⟩ (.slice a6 n c6)) (w.heap.size + 1) (.slice a6 n c6) (.slice none 0 0) (.int .u32 0) (.int .u32 0) (.int .u32 0)
  have HYF := Lib.hid ((HY6.out.keep hkA (fun bb hb e => by have := HGE.out bb hb; omega)).keep hkB (fun bb hb e => by have := HGE.out bb hb; omega))
  have HKA := Lib.hid (Keeps.below HK6.out hkA HK6.out.size (fun k hk => by omega))
  have HKF := Lib.hid (Keeps.below HKA.out hkB HKA.out.size (fun k hk => by omega))
  clear hkA hkB HK6 HKA HY6
  obtain ⟨⟨p0, p1, p2, p3, p4⟩, z0, z1, z2, z3, z4⟩ := pay_cells HR6.out
  obtain ⟨⟨q0, q1, q2, q3, q4⟩, y0, y1, y2, y3, y4⟩ := pay_cells HP6.out
  go_wp2_with fail
  clear p0 p1 p2 p3 p4 z0 z1 z2 z3 z4 q0 q1 q2 q3 q4 y0 y1 y2 y3 y4
  obtain ⟨⟨s0, s1, s2, s3, s4⟩, _⟩ := pay_cells HPF.out
  (try simp only [Exit.inBlock, Exit.then])
  refine bodyPost_ret (by simp [results, Try.results26, go_sem, s0, s1, s2, s3, s4]; try rfl) rfl ?_
  exact ⟨a6, n, c6, _, by rw [HQ.out]; rfl, HYF.out, fun _ => HXX.out, fun bb hb => by have := HGE.out bb hb; omega, HKF.out⟩

set_option maxHeartbeats 3200000 in
theorem refpad_ft (fl st : Int) (a : Option Addr) (n cap : Nat) (xs : List UInt8) (w : World) (hx : By w a n cap xs) (hn : n ≤ 1000000) (hp : (bits .and .u8 fl 8 != 0) = false) (hq : (bits .and .u8 fl 32 != 0) = true) :
    Calls Try.prog 26 #[FrV 1 fl st a n cap] w (PayP 1 fl 1 xs w) := by
  have hpp : padP 1 fl = false := by simp [padP, hp]
  have hqq : prioP 1 fl = true := by simp [prioP, hq]
  have ha : aheadI 1 fl = 5 := by unfold aheadI; rw [hpp, hqq]; rfl
  have hl := hx.1
  have hcp := hx.2.le
  by_cases hc5 : cap = 5
  · subst hc5
    have hpi : padI 1 fl xs = 0 := by unfold padI; rw [hpp]; rfl
    unfold FrV
    by_cases h5 : n < 5
    · have HQ : Hid (payQ 1 fl 1 xs = 1) := by show _ = _; unfold payQ; rw [ha, if_neg (by decide), if_neg (by decide), if_pos (by omega)]
      have h5d : decide ((n : Int) < 5) = true := by simp; omega
      (
        skip
        have HZ := Lib.hid (pay_cells (((Blk.new (w.alloc (.cells #[.int .u8 1, .int .u8 fl, .int .u32 st, .slice a n 5] 33 (0, 0))) #[.slice none 0 0, .slice none 0 0, .int .u32 0, .int .u32 0, .int .u32 0] 49).alloc (.cells #[.slice none 0 0, .slice none 0 0, .int .u32 0, .int .u32 0, .int .u32 0] 49 (0, 0)))))
        have HKE := Lib.hid (((((Below.refl w.heap.size w).alloc (Nat.le_refl _) (.cells #[.int .u8 1, .int .u8 fl, .int .u32 st, .slice a n 5] 33 (0, 0))).alloc (by simp) (.cells #[.slice none 0 0, .slice none 0 0, .int .u32 0, .int .u32 0, .int .u32 0] 49 (0, 0))).alloc (by simp; omega) (.cells #[.slice none 0 0, .slice none 0 0, .int .u32 0, .int .u32 0, .int .u32 0] 49 (0, 0))))
        simp only [World.size_alloc] at HZ
        clear hx hpp hqq ha hpi hl
        go_enter Try.func26, Try.ntmps26
        go_wp2_with fail
        exact bodyPost_ret (by simp [results, Try.results26, go_sem, HZ.out.1.1, HZ.out.1.2.1, HZ.out.1.2.2.1, HZ.out.1.2.2.2.1, HZ.out.1.2.2.2.2]; try rfl) rfl ⟨none, 0, 0, [], by rw [HQ.out]; rfl, By.nil _, by rw [HQ.out]; intro h; omega, by simp, HKE.out⟩
      )
    · obtain ⟨b, o, rfl, hblt, hcl⟩ := hx.get (by omega)
      clear hblt hcl
      obtain rfl : n = 5 := by omega
      have HQ : Hid (payQ 1 fl 1 xs = 0) := by show _ = _; unfold payQ; rw [ha, hpi, if_neg (by decide), if_neg (by decide), if_neg (by omega), if_neg (by omega)]
      have HXX : Hid ((xs.drop 5).take (5 - 5) = payX 1 fl xs) := by show _ = _; unfold payX; rw [ha, hpi, if_neg (by decide), ← hl]; simp
      have h5d : decide ((5 : Int) < 5) = false := by simp; try omega

      have HK2 := Lib.hid (((((Below.refl w.heap.size w).alloc (Nat.le_refl _) (.cells #[.int .u8 1, .int .u8 fl, .int .u32 st, .slice (some ⟨b, o, none⟩) 5 5] 33 (0, 0))).alloc (by simp) (.cells #[.slice none 0 0, .slice none 0 0, .int .u32 0, .int .u32 0, .int .u32 0] 49 (0, 0))).alloc (by simp; omega) (.cells #[.slice none 0 0, .slice none 0 0, .int .u32 0, .int .u32 0, .int .u32 0] 49 (0, 0))))
      have HR := Lib.hid ((Blk.new ((w.alloc (.cells #[.int .u8 1, .int .u8 fl, .int .u32 st, .slice (some ⟨b, o, none⟩) 5 5] 33 (0, 0))).alloc (.cells #[.slice none 0 0, .slice none 0 0, .int .u32 0, .int .u32 0, .int .u32 0] 49 (0, 0))) #[.slice none 0 0, .slice none 0 0, .int .u32 0, .int .u32 0, .int .u32 0] 49))
      have HP := Lib.hid (((Blk.new (w.alloc (.cells #[.int .u8 1, .int .u8 fl, .int .u32 st, .slice (some ⟨b, o, none⟩) 5 5] 33 (0, 0))) #[.slice none 0 0, .slice none 0 0, .int .u32 0, .int .u32 0, .int .u32 0] 49).alloc (.cells #[.slice none 0 0, .slice none 0 0, .int .u32 0, .int .u32 0, .int .u32 0] 49 (0, 0))))
      simp only [World.size_alloc] at HR HP
      have HX := Lib.hid ((((hx.alloc (.cells #[.int .u8 1, .int .u8 fl, .int .u32 st, .slice (some ⟨b, o, none⟩) 5 5] 33 (0, 0))).alloc (.cells #[.slice none 0 0, .slice none 0 0, .int .u32 0, .int .u32 0, .int .u32 0] 49 (0, 0))).alloc (.cells #[.slice none 0 0, .slice none 0 0, .int .u32 0, .int .u32 0, .int .u32 0] 49 (0, 0))).from 5 (by omega))
      clear hx hpp hqq ha hpi hl
      go_enter Try.func26, Try.ntmps26
      go_wp2_with (at_builtin; refine halt ?_)
      refine Halted.go (wpList_copy8 _ rfl _ rfl _ (0) _ ((xs.drop 5).take (0)) rfl (By.pre (n := 0) ?_ (by omega)) (by omega) ?_)
      · first | exact HX.out | simpa [offA] using HX.out
      intro a6 c6 w6 ho6 hk6
      have HR6 := Lib.hid ((Below.keeps hk6).blk HR.out (by simp))
      have HP6 := Lib.hid ((Below.keeps hk6).blk HP.out (by simp; omega))
      have HK6 := Lib.hid (HK2.out.trans (hk6.mono HK2.out.size))
      have HGE : Hid (∀ bb, a6.map (·.block) = some bb → w.heap.size + 3 ≤ bb) := Lib.hid (fun bb hb => by
        have h := (ho6.ge bb hb).1
        change (World.alloc _ _).heap.size ≤ bb at h
        simp only [World.size_alloc] at h
        omega)
      have HY6 := Lib.hid ho6.by
      clear ho6 hk6
      have HPF := Lib.hid (pay_set (((Keeps.refl (fun k => k = w.heap.size + 1 + 1) w6).put 0 (.slice a6 0 c6)).blk HP6.out (by simp)) (.slice a6 0 c6) (.slice none 0 0) (.int .u32 0) (.int .u32 0) (.int .u32 0))
      have hkA := ((Keeps.refl (fun k => k = w.heap.size + 1 + 1) w6).put 0 (.slice a6 0 c6))
      have hkB := pay_keep (w6.setCell ⟨w.heap.size + 1 + 1, 0, none⟩ (.slice a6 0 c6)) (w.heap.size + 1) (.slice a6 0 c6) (.slice none 0 0) (.int .u32 0) (.int .u32 0) (.int .u32 0)
      have HYF := Lib.hid ((HY6.out.keep hkA (fun bb hb e => by have := HGE.out bb hb; omega)).keep hkB (fun bb hb e => by have := HGE.out bb hb; omega))
      have HKA := Lib.hid (Keeps.below HK6.out hkA HK6.out.size (fun k hk => by omega))
      have HKF := Lib.hid (Keeps.below HKA.out hkB HKA.out.size (fun k hk => by omega))
      clear hkA hkB HK6 HKA HY6
      obtain ⟨⟨p0, p1, p2, p3, p4⟩, z0, z1, z2, z3, z4⟩ := pay_cells HR6.out
      obtain ⟨⟨q0, q1, q2, q3, q4⟩, y0, y1, y2, y3, y4⟩ := pay_cells HP6.out
      go_wp2_with fail
      clear p0 p1 p2 p3 p4 z0 z1 z2 z3 z4 q0 q1 q2 q3 q4 y0 y1 y2 y3 y4
      obtain ⟨⟨s0, s1, s2, s3, s4⟩, _⟩ := pay_cells HPF.out
      (try simp only [Exit.inBlock, Exit.then])
      refine bodyPost_ret (by simp [results, Try.results26, go_sem, s0, s1, s2, s3, s4]; try rfl) rfl ?_
      exact ⟨a6, 0, c6, _, by rw [HQ.out]; rfl, HYF.out, fun _ => HXX.out, fun bb hb => by have := HGE.out bb hb; omega, HKF.out⟩

  have hpi : padI 1 fl xs = 0 := by unfold padI; rw [hpp]; rfl
  unfold FrV
  by_cases h5 : n < 5
  · have HQ : Hid (payQ 1 fl 1 xs = 1) := by show _ = _; unfold payQ; rw [ha, if_neg (by decide), if_neg (by decide), if_pos (by omega)]
    have h5d : decide ((n : Int) < 5) = true := by simp; omega
    (
      skip
      have HZ := Lib.hid (pay_cells (((Blk.new (w.alloc (.cells #[.int .u8 1, .int .u8 fl, .int .u32 st, .slice a n cap] 33 (0, 0))) #[.slice none 0 0, .slice none 0 0, .int .u32 0, .int .u32 0, .int .u32 0] 49).alloc (.cells #[.slice none 0 0, .slice none 0 0, .int .u32 0, .int .u32 0, .int .u32 0] 49 (0, 0)))))
      have HKE := Lib.hid (((((Below.refl w.heap.size w).alloc (Nat.le_refl _) (.cells #[.int .u8 1, .int .u8 fl, .int .u32 st, .slice a n cap] 33 (0, 0))).alloc (by simp) (.cells #[.slice none 0 0, .slice none 0 0, .int .u32 0, .int .u32 0, .int .u32 0] 49 (0, 0))).alloc (by simp; omega) (.cells #[.slice none 0 0, .slice none 0 0, .int .u32 0, .int .u32 0, .int .u32 0] 49 (0, 0))))
      simp only [World.size_alloc] at HZ
      clear hx hpp hqq ha hpi hl
      go_enter Try.func26, Try.ntmps26
      go_wp2_with fail
      exact bodyPost_ret (by simp [results, Try.results26, go_sem, HZ.out.1.1, HZ.out.1.2.1, HZ.out.1.2.2.1, HZ.out.1.2.2.2.1, HZ.out.1.2.2.2.2]; try rfl) rfl ⟨none, 0, 0, [], by rw [HQ.out]; rfl, By.nil _, by rw [HQ.out]; intro h; omega, by simp, HKE.out⟩
    )
  · obtain ⟨b, o, rfl, hblt, hcl⟩ := hx.get (by omega)
    clear hblt hcl
    have HQ : Hid (payQ 1 fl 1 xs = 0) := by show _ = _; unfold payQ; rw [ha, hpi, if_neg (by decide), if_neg (by decide), if_neg (by omega), if_neg (by omega)]
    have HXX : Hid ((xs.drop 5).take (n - 5) = payX 1 fl xs) := by show _ = _; unfold payX; rw [ha, hpi, if_neg (by decide), ← hl]; simp
    have h5d : decide ((n : Int) < 5) = false := by simp; try omega

    have HK2 := Lib.hid (((((Below.refl w.heap.size w).alloc (Nat.le_refl _) (.cells #[.int .u8 1, .int .u8 fl, .int .u32 st, .slice (some ⟨b, o, none⟩) n cap] 33 (0, 0))).alloc (by simp) (.cells #[.slice none 0 0, .slice none 0 0, .int .u32 0, .int .u32 0, .int .u32 0] 49 (0, 0))).alloc (by simp; omega) (.cells #[.slice none 0 0, .slice none 0 0, .int .u32 0, .int .u32 0, .int .u32 0] 49 (0, 0))))
    have HR := Lib.hid ((Blk.new ((w.alloc (.cells #[.int .u8 1, .int .u8 fl, .int .u32 st, .slice (some ⟨b, o, none⟩) n cap] 33 (0, 0))).alloc (.cells #[.slice none 0 0, .slice none 0 0, .int .u32 0, .int .u32 0, .int .u32 0] 49 (0, 0))) #[.slice none 0 0, .slice none 0 0, .int .u32 0, .int .u32 0, .int .u32 0] 49))
    have HP := Lib.hid (((Blk.new (w.alloc (.cells #[.int .u8 1, .int .u8 fl, .int .u32 st, .slice (some ⟨b, o, none⟩) n cap] 33 (0, 0))) #[.slice none 0 0, .slice none 0 0, .int .u32 0, .int .u32 0, .int .u32 0] 49).alloc (.cells #[.slice none 0 0, .slice none 0 0, .int .u32 0, .int .u32 0, .int .u32 0] 49 (0, 0))))
    simp only [World.size_alloc] at HR HP
    have HX := Lib.hid ((((hx.alloc (.cells #[.int .u8 1, .int .u8 fl, .int .u32 st, .slice (some ⟨b, o, none⟩) n cap] 33 (0, 0))).alloc (.cells #[.slice none 0 0, .slice none 0 0, .int .u32 0, .int .u32 0, .int .u32 0] 49 (0, 0))).alloc (.cells #[.slice none 0 0, .slice none 0 0, .int .u32 0, .int .u32 0, .int .u32 0] 49 (0, 0))).from 5 (by omega))
    have hw : IntKind.i64.wrap (((n : Int) - 5) - 0) = ((n - 5 : Nat) : Int) := by rw [IntKind.wrap_i64]; omega
    have hw2 : wrap64 (((n : Int) - 5) - 0) = ((n - 5 : Nat) : Int) := by unfold wrap64; omega
    have hn1 : (5 : Int) ≤ (n : Int) := by omega
    have hn2 : (n : Int) ≤ (cap : Int) := by omega
    clear hx hpp hqq ha hpi hl
    go_enter Try.func26, Try.ntmps26
    go_wp2_with (at_builtin; refine halt ?_)
    refine Halted.go (wpList_copy8 _ rfl _ rfl _ (n - 5) _ ((xs.drop 5).take (n - 5)) rfl (By.pre (n := n - 5) ?_ (by omega)) (by omega) ?_)
    · first | exact HX.out | simpa [offA, hc5, Addr.add] using HX.out
    intro a6 c6 w6 ho6 hk6
    have HR6 := Lib.hid ((Below.keeps hk6).blk HR.out (by simp))
    have HP6 := Lib.hid ((Below.keeps hk6).blk HP.out (by simp; omega))
    have HK6 := Lib.hid (HK2.out.trans (hk6.mono HK2.out.size))
    have HGE : Hid (∀ bb, a6.map (·.block) = some bb → w.heap.size + 3 ≤ bb) := Lib.hid (fun bb hb => by
      have h := (ho6.ge bb hb).1
      change (World.alloc _ _).heap.size ≤ bb at h
      simp only [World.size_alloc] at h
      omega)
    have HY6 := Lib.hid ho6.by
    clear ho6 hk6
    generalize hkk : n - 5 = k at *
    have HN := Lib.hid hkk
    clear hkk
    have HPF := Lib.hid (pay_set (((Keeps.refl (fun k => k = w.heap.size + 1 + 1) w6).put 0 (.slice a6 k c6)).blk HP6.out (by simp)) (.slice a6 k c6) (.slice none 0 0) (.int .u32 0) (.int .u32 0) (.int .u32 0))
    have hkA := ((Keeps.refl (fun k => k = w.heap.size + 1 + 1) w6).put 0 (.slice a6 k c6))
    have hkB := pay_keep (w6.setCell ⟨w.heap.size + 1 + 1, 0, none⟩ (.slice a6 k c6)) (w.heap.size + 1) (.slice a6 k c6) (.slice none 0 0) (.int .u32 0) (.int .u32 0) (.int .u32 0)
    have HYF := Lib.hid ((HY6.out.keep hkA (fun bb hb e => by have := HGE.out bb hb; omega)).keep hkB (fun bb hb e => by have := HGE.out bb hb; omega))
    have HKA := Lib.hid (Keeps.below HK6.out hkA HK6.out.size (fun k hk => by omega))
    have HKF := Lib.hid (Keeps.below HKA.out hkB HKA.out.size (fun k hk => by omega))
    clear hkA hkB HK6 HKA HY6
    obtain ⟨⟨p0, p1, p2, p3, p4⟩, z0, z1, z2, z3, z4⟩ := pay_cells HR6.out
    obtain ⟨⟨q0, q1, q2, q3, q4⟩, y0, y1, y2, y3, y4⟩ := pay_cells HP6.out
    go_wp2_with fail
    clear p0 p1 p2 p3 p4 z0 z1 z2 z3 z4 q0 q1 q2 q3 q4 y0 y1 y2 y3 y4
    obtain ⟨⟨s0, s1, s2, s3, s4⟩, _⟩ := pay_cells HPF.out
    (try simp only [Exit.inBlock, Exit.then])
    refine bodyPost_ret (by simp [results, Try.results26, go_sem, s0, s1, s2, s3, s4]; try rfl) rfl ?_
    exact ⟨a6, k, c6, _, by rw [HQ.out]; rfl, HYF.out, fun _ => HXX.out, fun bb hb => by have := HGE.out bb hb; omega, HKF.out⟩

set_option maxHeartbeats 3200000 in
theorem refpad_tf (fl st : Int) (a : Option Addr) (n cap : Nat) (xs : List UInt8) (w : World) (hx : By w a n cap xs) (hn : n ≤ 1000000) (hp : (bits .and .u8 fl 8 != 0) = true) (hq : (bits .and .u8 fl 32 != 0) = false) :
    Calls Try.prog 26 #[FrV 1 fl st a n cap] w (PayP 1 fl 1 xs w) := by
  have hpp : padP 1 fl = true := by simp [padP, hp]
  have hqq : prioP 1 fl = false := by simp [prioP, hq]
  have ha : aheadI 1 fl = 1 := by unfold aheadI; rw [hpp, hqq]; rfl
  have hl := hx.1
  have hcp := hx.2.le
  by_cases hc1 : cap = 1
  · subst hc1
    unfold FrV
    by_cases h1 : n < 1
    · have HQ : Hid (payQ 1 fl 1 xs = 1) := by show _ = _; unfold payQ; rw [ha, if_neg (by decide), if_neg (by decide), if_pos (by omega)]
      have h1d : decide ((n : Int) < 1) = true := by simp; omega
      (
        have HZ := Lib.hid (pay_cells ((Blk.new (w.alloc (.cells #[.int .u8 1, .int .u8 fl, .int .u32 st, .slice a n 1] 33 (0, 0))) #[.slice none 0 0, .slice none 0 0, .int .u32 0, .int .u32 0, .int .u32 0] 49)))
        have HKE := Lib.hid ((((Below.refl w.heap.size w).alloc (Nat.le_refl _) (.cells #[.int .u8 1, .int .u8 fl, .int .u32 st, .slice a n 1] 33 (0, 0))).alloc (by simp) (.cells #[.slice none 0 0, .slice none 0 0, .int .u32 0, .int .u32 0, .int .u32 0] 49 (0, 0))))
        simp only [World.size_alloc] at HZ
        clear hx hpp hqq ha hl
        go_enter Try.func26, Try.ntmps26
        go_wp2_with fail
        exact bodyPost_ret (by simp [results, Try.results26, go_sem, HZ.out.1.1, HZ.out.1.2.1, HZ.out.1.2.2.1, HZ.out.1.2.2.2.1, HZ.out.1.2.2.2.2]; try rfl) rfl ⟨none, 0, 0, [], by rw [HQ.out]; rfl, By.nil _, by rw [HQ.out]; intro h; omega, by simp, HKE.out⟩
      )
    obtain ⟨b, o, rfl, hblt, hcl⟩ := hx.get (by omega)
    cases xs with
    | nil => simp at hl; omega
    | cons y ys =>
    have hd0 : w.cell? ⟨b, o, none⟩ = some (.int .u8 (y.toNat : Int)) := hcl 0 (by simp)
    have hd1 : ((w.alloc (.cells #[.int .u8 1, .int .u8 fl, .int .u32 st, .slice (some ⟨b, o, none⟩) n 1] 33 (0, 0))).alloc (.cells #[.slice none 0 0, .slice none 0 0, .int .u32 0, .int .u32 0, .int .u32 0] 49 (0, 0))).cell? ⟨b, o, none⟩ = some (.int .u8 (y.toNat : Int)) := by
      have hk := ((Below.refl w.heap.size w).alloc (Nat.le_refl _) (.cells #[.int .u8 1, .int .u8 fl, .int .u32 st, .slice (some ⟨b, o, none⟩) n 1] 33 (0, 0))).alloc (by simp) (.cells #[.slice none 0 0, .slice none 0 0, .int .u32 0, .int .u32 0, .int .u32 0] 49 (0, 0))
      exact (hk.cell (p := ⟨b, o, none⟩) hblt).trans hd0
    have hpi : padI 1 fl (y :: ys) = y.toNat := by unfold padI; rw [hpp]; rfl
    have h1d : decide ((n : Int) < 1) = false := by simp; omega
    have hw : wrap64 (y.toNat : Int) = (y.toNat : Int) := by have := y.toNat_lt; unfold wrap64; omega
    have hw' : IntKind.i64.wrap (y.toNat : Int) = (y.toNat : Int) := by have := y.toNat_lt; rw [IntKind.wrap_i64]; omega
    have hn2 : (0 : Int) < (n : Int) := by omega
    have hn3 : (1 : Int) ≤ (n : Int) := by omega
    have hn4 : (n : Int) ≤ (1 : Int) := by omega
    have ho1 := offA_eq (some ⟨b, o, none⟩) 1 1
    have hlt2 := y.toNat_lt
    by_cases h6 : n < 1 + y.toNat
    · have HQ : Hid (payQ 1 fl 1 (y :: ys) = 6) := by show _ = _; unfold payQ; rw [ha, hpi, if_neg (by decide), if_neg (by decide), if_neg (by omega), if_pos (by omega)]
      have h6d : decide ((n : Int) - 1 < (y.toNat : Int)) = true := by simp; omega
      (
        have HZ := Lib.hid (pay_cells (((Blk.new (w.alloc (.cells #[.int .u8 1, .int .u8 fl, .int .u32 st, .slice (some ⟨b, o, none⟩) n 1] 33 (0, 0))) #[.slice none 0 0, .slice none 0 0, .int .u32 0, .int .u32 0, .int .u32 0] 49).alloc (.cells #[.slice none 0 0, .slice none 0 0, .int .u32 0, .int .u32 0, .int .u32 0] 49 (0, 0))).drew))
        have HKE := Lib.hid (((((Below.refl w.heap.size w).alloc (Nat.le_refl _) (.cells #[.int .u8 1, .int .u8 fl, .int .u32 st, .slice (some ⟨b, o, none⟩) n 1] 33 (0, 0))).alloc (by simp) (.cells #[.slice none 0 0, .slice none 0 0, .int .u32 0, .int .u32 0, .int .u32 0] 49 (0, 0))).alloc (by simp; omega) (.cells #[.slice none 0 0, .slice none 0 0, .int .u32 0, .int .u32 0, .int .u32 0] 49 (0, 0))).drew)
        simp only [World.size_alloc] at HZ
        clear hx hpp hqq ha hl hcl hpi
        go_enter Try.func26, Try.ntmps26
        go_wp2_with fail
        go_region_with fail
        all_goals (

          go_wp2_with fail
          exact bodyPost_ret (by simp [results, Try.results26, go_sem, HZ.out.1.1, HZ.out.1.2.1, HZ.out.1.2.2.1, HZ.out.1.2.2.2.1, HZ.out.1.2.2.2.2]; try rfl) rfl ⟨none, 0, 0, [], by rw [HQ.out]; rfl, By.nil _, by rw [HQ.out]; intro h; omega, by simp, HKE.out⟩
  )
      )
    · obtain rfl : n = 1 := by omega
      obtain rfl : y = 0 := by
        have h0 : y.toNat = 0 := by omega
        exact UInt8.toNat_inj.1 (by simpa using h0)
      have HQ : Hid (payQ 1 fl 1 ((0 : UInt8) :: ys) = 0) := by show _ = _; unfold payQ; rw [ha, hpi, if_neg (by decide), if_neg (by decide), if_neg (by omega), if_neg (by first | omega | (simp at hl ⊢; omega) | simp)]
      have HXX : Hid ((ys).take 0 = payX 1 fl ((0 : UInt8) :: ys)) := by show _ = _; unfold payX; rw [ha, hpi, if_neg (by decide), ← hl]; simp
      have h6d : decide ((1 : Int) - 1 < ((((0 : UInt8)).toNat : Nat) : Int)) = false := by simp

      have HK2 := Lib.hid (((((Below.refl w.heap.size w).alloc (Nat.le_refl _) (.cells #[.int .u8 1, .int .u8 fl, .int .u32 st, .slice (some ⟨b, o, none⟩) 1 1] 33 (0, 0))).alloc (by simp) (.cells #[.slice none 0 0, .slice none 0 0, .int .u32 0, .int .u32 0, .int .u32 0] 49 (0, 0))).alloc (by simp; omega) (.cells #[.slice none 0 0, .slice none 0 0, .int .u32 0, .int .u32 0, .int .u32 0] 49 (0, 0))).drew)
      have HR := Lib.hid ((Blk.new ((w.alloc (.cells #[.int .u8 1, .int .u8 fl, .int .u32 st, .slice (some ⟨b, o, none⟩) 1 1] 33 (0, 0))).alloc (.cells #[.slice none 0 0, .slice none 0 0, .int .u32 0, .int .u32 0, .int .u32 0] 49 (0, 0))) #[.slice none 0 0, .slice none 0 0, .int .u32 0, .int .u32 0, .int .u32 0] 49).drew)
      have HP := Lib.hid (((Blk.new (w.alloc (.cells #[.int .u8 1, .int .u8 fl, .int .u32 st, .slice (some ⟨b, o, none⟩) 1 1] 33 (0, 0))) #[.slice none 0 0, .slice none 0 0, .int .u32 0, .int .u32 0, .int .u32 0] 49).alloc (.cells #[.slice none 0 0, .slice none 0 0, .int .u32 0, .int .u32 0, .int .u32 0] 49 (0, 0))).drew)
      simp only [World.size_alloc] at HR HP
      have HX := Lib.hid ((((((hx.alloc (.cells #[.int .u8 1, .int .u8 fl, .int .u32 st, .slice (some ⟨b, o, none⟩) 1 1] 33 (0, 0))).alloc (.cells #[.slice none 0 0, .slice none 0 0, .int .u32 0, .int .u32 0, .int .u32 0] 49 (0, 0))).alloc (.cells #[.slice none 0 0, .slice none 0 0, .int .u32 0, .int .u32 0, .int .u32 0] 49 (0, 0))).drew').from 1 (by omega)))
      simp only [List.drop_succ_cons, List.drop_zero] at HX
      clear hx hpp hqq ha hl hcl hpi hd0
      go_enter Try.func26, Try.ntmps26
      go_wp2_with (at_builtin; refine halt ?_)
      go_region_with fail
      all_goals (go_wp2_with (at_builtin; refine halt ?_))
      all_goals (

        refine Halted.go (wpList_copy8 _ rfl _ rfl _ (0) _ ((ys).take (0)) rfl (By.pre (n := 0) ?_ (by omega)) (by omega) ?_)
        · first | exact HX.out | simpa [offA] using HX.out | simpa [offA, hc1, Addr.add] using HX.out
        intro a6 c6 w6 ho6 hk6
        have HR6 := Lib.hid ((Below.keeps hk6).blk HR.out (by simp))
        have HP6 := Lib.hid ((Below.keeps hk6).blk HP.out (by simp; omega))
        have HK6 := Lib.hid (HK2.out.trans (hk6.mono HK2.out.size))
        have HGE : Hid (∀ bb, a6.map (·.block) = some bb → w.heap.size + 3 ≤ bb) := Lib.hid (fun bb hb => by
          have h := (ho6.ge bb hb).1
          change (World.alloc _ _).heap.size ≤ bb at h
          simp only [World.size_alloc] at h
          omega)
        have HY6 := Lib.hid ho6.by
        clear ho6 hk6
        have HPF := Lib.hid (pay_set (((Keeps.refl (fun k => k = w.heap.size + 1 + 1) w6).put 0 (.slice a6 0 c6)).blk HP6.out (by simp)) (.slice a6 0 c6) (.slice none 0 0) (.int .u32 0) (.int .u32 0) (.int .u32 0))
        have hkA := ((Keeps.refl (fun k => k = w.heap.size + 1 + 1) w6).put 0 (.slice a6 0 c6))
        have hkB := pay_keep (w6.setCell ⟨w.heap.size + 1 + 1, 0, none⟩ (.slice a6 0 c6)) (w.heap.size + 1) (.slice a6 0 c6) (.slice none 0 0) (.int .u32 0) (.int .u32 0) (.int .u32 0)
        have HYF := Lib.hid ((HY6.out.keep hkA (fun bb hb e => by have := HGE.out bb hb; omega)).keep hkB (fun bb hb e => by have := HGE.out bb hb; omega))
        have HKA := Lib.hid (Keeps.below HK6.out hkA HK6.out.size (fun k hk => by omega))
        have HKF := Lib.hid (Keeps.below HKA.out hkB HKA.out.size (fun k hk => by omega))
        clear hkA hkB HK6 HKA HY6
        obtain ⟨⟨p0, p1, p2, p3, p4⟩, z0, z1, z2, z3, z4⟩ := pay_cells HR6.out
        obtain ⟨⟨q0, q1, q2, q3, q4⟩, y0, y1, y2, y3, y4⟩ := pay_cells HP6.out
        go_wp2_with fail
        clear p0 p1 p2 p3 p4 z0 z1 z2 z3 z4 q0 q1 q2 q3 q4 y0 y1 y2 y3 y4
        obtain ⟨⟨s0, s1, s2, s3, s4⟩, _⟩ := pay_cells HPF.out
        (try simp only [Exit.inBlock, Exit.then])
        refine bodyPost_ret (by simp [results, Try.results26, go_sem, s0, s1, s2, s3, s4]; try rfl) rfl ?_
        exact ⟨a6, 0, c6, _, by rw [HQ.out]; rfl, HYF.out, fun _ => HXX.out, fun bb hb => by have := HGE.out bb hb; omega, HKF.out⟩
      )

  unfold FrV
  by_cases h1 : n < 1
  · have HQ : Hid (payQ 1 fl 1 xs = 1) := by show _ = _; unfold payQ; rw [ha, if_neg (by decide), if_neg (by decide), if_pos (by omega)]
    have h1d : decide ((n : Int) < 1) = true := by simp; omega
    (
      have HZ := Lib.hid (pay_cells ((Blk.new (w.alloc (.cells #[.int .u8 1, .int .u8 fl, .int .u32 st, .slice a n cap] 33 (0, 0))) #[.slice none 0 0, .slice none 0 0, .int .u32 0, .int .u32 0, .int .u32 0] 49)))
      have HKE := Lib.hid ((((Below.refl w.heap.size w).alloc (Nat.le_refl _) (.cells #[.int .u8 1, .int .u8 fl, .int .u32 st, .slice a n cap] 33 (0, 0))).alloc (by simp) (.cells #[.slice none 0 0, .slice none 0 0, .int .u32 0, .int .u32 0, .int .u32 0] 49 (0, 0))))
      simp only [World.size_alloc] at HZ
      clear hx hpp hqq ha hl
      go_enter Try.func26, Try.ntmps26
      go_wp2_with fail
      exact bodyPost_ret (by simp [results, Try.results26, go_sem, HZ.out.1.1, HZ.out.1.2.1, HZ.out.1.2.2.1, HZ.out.1.2.2.2.1, HZ.out.1.2.2.2.2]; try rfl) rfl ⟨none, 0, 0, [], by rw [HQ.out]; rfl, By.nil _, by rw [HQ.out]; intro h; omega, by simp, HKE.out⟩
    )
  obtain ⟨b, o, rfl, hblt, hcl⟩ := hx.get (by omega)
  cases xs with
  | nil => simp at hl; omega
  | cons y ys =>
  have hd0 : w.cell? ⟨b, o, none⟩ = some (.int .u8 (y.toNat : Int)) := hcl 0 (by simp)
  have hd1 : ((w.alloc (.cells #[.int .u8 1, .int .u8 fl, .int .u32 st, .slice (some ⟨b, o, none⟩) n cap] 33 (0, 0))).alloc (.cells #[.slice none 0 0, .slice none 0 0, .int .u32 0, .int .u32 0, .int .u32 0] 49 (0, 0))).cell? ⟨b, o, none⟩ = some (.int .u8 (y.toNat : Int)) := by
    have hk := ((Below.refl w.heap.size w).alloc (Nat.le_refl _) (.cells #[.int .u8 1, .int .u8 fl, .int .u32 st, .slice (some ⟨b, o, none⟩) n cap] 33 (0, 0))).alloc (by simp) (.cells #[.slice none 0 0, .slice none 0 0, .int .u32 0, .int .u32 0, .int .u32 0] 49 (0, 0))
    exact (hk.cell (p := ⟨b, o, none⟩) hblt).trans hd0
  have hpi : padI 1 fl (y :: ys) = y.toNat := by unfold padI; rw [hpp]; rfl
  have h1d : decide ((n : Int) < 1) = false := by simp; omega
  have hw : wrap64 (y.toNat : Int) = (y.toNat : Int) := by have := y.toNat_lt; unfold wrap64; omega
  have hw' : IntKind.i64.wrap (y.toNat : Int) = (y.toNat : Int) := by have := y.toNat_lt; rw [IntKind.wrap_i64]; omega
  have hn2 : (0 : Int) < (n : Int) := by omega
  have hn3 : (1 : Int) ≤ (n : Int) := by omega
  have hn4 : (n : Int) ≤ (cap : Int) := by omega
  have ho1 := offA_eq (some ⟨b, o, none⟩) cap 1
  have hlt2 := y.toNat_lt
  by_cases h6 : n < 1 + y.toNat
  · have HQ : Hid (payQ 1 fl 1 (y :: ys) = 6) := by show _ = _; unfold payQ; rw [ha, hpi, if_neg (by decide), if_neg (by decide), if_neg (by omega), if_pos (by omega)]
    have h6d : decide ((n : Int) - 1 < (y.toNat : Int)) = true := by simp; omega
    (
      have HZ := Lib.hid (pay_cells (((Blk.new (w.alloc (.cells #[.int .u8 1, .int .u8 fl, .int .u32 st, .slice (some ⟨b, o, none⟩) n cap] 33 (0, 0))) #[.slice none 0 0, .slice none 0 0, .int .u32 0, .int .u32 0, .int .u32 0] 49).alloc (.cells #[.slice none 0 0, .slice none 0 0, .int .u32 0, .int .u32 0, .int .u32 0] 49 (0, 0))).drew))
      have HKE := Lib.hid (((((Below.refl w.heap.size w).alloc (Nat.le_refl _) (.cells #[.int .u8 1, .int .u8 fl, .int .u32 st, .slice (some ⟨b, o, none⟩) n cap] 33 (0, 0))).alloc (by simp) (.cells #[.slice none 0 0, .slice none 0 0, .int .u32 0, .int .u32 0, .int .u32 0] 49 (0, 0))).alloc (by simp; omega) (.cells #[.slice none 0 0, .slice none 0 0, .int .u32 0, .int .u32 0, .int .u32 0] 49 (0, 0))).drew)
      simp only [World.size_alloc] at HZ
      clear hx hpp hqq ha hl hcl hpi
      go_enter Try.func26, Try.ntmps26
      go_wp2_with fail
      go_region_with fail
      all_goals (

        go_wp2_with fail
        exact bodyPost_ret (by simp [results, Try.results26, go_sem, HZ.out.1.1, HZ.out.1.2.1, HZ.out.1.2.2.1, HZ.out.1.2.2.2.1, HZ.out.1.2.2.2.2]; try rfl) rfl ⟨none, 0, 0, [], by rw [HQ.out]; rfl, By.nil _, by rw [HQ.out]; intro h; omega, by simp, HKE.out⟩
)
    )
  · have HQ : Hid (payQ 1 fl 1 (y :: ys) = 0) := by show _ = _; unfold payQ; rw [ha, hpi, if_neg (by decide), if_neg (by decide), if_neg (by omega), if_neg (by first | omega | (simp at hl ⊢; omega) | simp)]
    have HXX : Hid ((ys).take (n - 1 - y.toNat) = payX 1 fl (y :: ys)) := by show _ = _; unfold payX; rw [ha, hpi, if_neg (by decide), ← hl, Int.toNat_natCast]; simp [show n - y.toNat - 1 = n - 1 - y.toNat by omega]
    have h6d : decide ((n : Int) - 1 < (y.toNat : Int)) = false := by simp; omega
    have hw3 : IntKind.i64.wrap ((n : Int) - 1 - (y.toNat : Int)) = ((n - 1 - y.toNat : Nat) : Int) := by rw [IntKind.wrap_i64]; omega
    have hw4 : wrap64 ((n : Int) - 1 - (y.toNat : Int)) = ((n - 1 - y.toNat : Nat) : Int) := by unfold wrap64; omega

    have HK2 := Lib.hid (((((Below.refl w.heap.size w).alloc (Nat.le_refl _) (.cells #[.int .u8 1, .int .u8 fl, .int .u32 st, .slice (some ⟨b, o, none⟩) n cap] 33 (0, 0))).alloc (by simp) (.cells #[.slice none 0 0, .slice none 0 0, .int .u32 0, .int .u32 0, .int .u32 0] 49 (0, 0))).alloc (by simp; omega) (.cells #[.slice none 0 0, .slice none 0 0, .int .u32 0, .int .u32 0, .int .u32 0] 49 (0, 0))).drew)
    have HR := Lib.hid ((Blk.new ((w.alloc (.cells #[.int .u8 1, .int .u8 fl, .int .u32 st, .slice (some ⟨b, o, none⟩) n cap] 33 (0, 0))).alloc (.cells #[.slice none 0 0, .slice none 0 0, .int .u32 0, .int .u32 0, .int .u32 0] 49 (0, 0))) #[.slice none 0 0, .slice none 0 0, .int .u32 0, .int .u32 0, .int .u32 0] 49).drew)
    have HP := Lib.hid (((Blk.new (w.alloc (.cells #[.int .u8 1, .int .u8 fl, .int .u32 st, .slice (some ⟨b, o, none⟩) n cap] 33 (0, 0))) #[.slice none 0 0, .slice none 0 0, .int .u32 0, .int .u32 0, .int .u32 0] 49).alloc (.cells #[.slice none 0 0, .slice none 0 0, .int .u32 0, .int .u32 0, .int .u32 0] 49 (0, 0))).drew)
    simp only [World.size_alloc] at HR HP
    have HX := Lib.hid ((((((hx.alloc (.cells #[.int .u8 1, .int .u8 fl, .int .u32 st, .slice (some ⟨b, o, none⟩) n cap] 33 (0, 0))).alloc (.cells #[.slice none 0 0, .slice none 0 0, .int .u32 0, .int .u32 0, .int .u32 0] 49 (0, 0))).alloc (.cells #[.slice none 0 0, .slice none 0 0, .int .u32 0, .int .u32 0, .int .u32 0] 49 (0, 0))).drew').from 1 (by omega)))
    simp only [List.drop_succ_cons, List.drop_zero] at HX
    clear hx hpp hqq ha hl hcl hpi hd0
    go_enter Try.func26, Try.ntmps26
    go_wp2_with (at_builtin; refine halt ?_)
    go_region_with fail
    all_goals (go_wp2_with (at_builtin; refine halt ?_))
    all_goals (

      refine Halted.go (wpList_copy8 _ rfl _ rfl _ (n - 1 - y.toNat) _ ((ys).take (n - 1 - y.toNat)) rfl (By.pre (n := n - 1) ?_ (by omega)) (by omega) ?_)
      · first | exact HX.out | simpa [offA] using HX.out | simpa [offA, hc1, Addr.add] using HX.out
      intro a6 c6 w6 ho6 hk6
      have HR6 := Lib.hid ((Below.keeps hk6).blk HR.out (by simp))
      have HP6 := Lib.hid ((Below.keeps hk6).blk HP.out (by simp; omega))
      have HK6 := Lib.hid (HK2.out.trans (hk6.mono HK2.out.size))
      have HGE : Hid (∀ bb, a6.map (·.block) = some bb → w.heap.size + 3 ≤ bb) := Lib.hid (fun bb hb => by
        have h := (ho6.ge bb hb).1
        change (World.alloc _ _).heap.size ≤ bb at h
        simp only [World.size_alloc] at h
        omega)
      have HY6 := Lib.hid ho6.by
      clear ho6 hk6
      generalize hkk : n - 1 - y.toNat = k at *
      have HN := Lib.hid hkk
      clear hkk
      have HPF := Lib.hid (pay_set (((Keeps.refl (fun k => k = w.heap.size + 1 + 1) w6).put 0 (.slice a6 k c6)).blk HP6.out (by simp)) (.slice a6 k c6) (.slice none 0 0) (.int .u32 0) (.int .u32 0) (.int .u32 0))
      have hkA := ((Keeps.refl (fun k => k = w.heap.size + 1 + 1) w6).put 0 (.slice a6 k c6))
      have hkB := pay_keep (w6.setCell ⟨w.heap.size + 1 + 1, 0, none⟩ (.slice a6 k c6)) (w.heap.size + 1) (.slice a6 k c6) (.slice none 0 0) (.int .u32 0) (.int .u32 0) (.int .u32 0)
      have HYF := Lib.hid ((HY6.out.keep hkA (fun bb hb e => by have := HGE.out bb hb; omega)).keep hkB (fun bb hb e => by have := HGE.out bb hb; omega))
      have HKA := Lib.hid (Keeps.below HK6.out hkA HK6.out.size (fun k hk => by omega))
      have HKF := Lib.hid (Keeps.below HKA.out hkB HKA.out.size (fun k hk => by omega))
      clear hkA hkB HK6 HKA HY6
      obtain ⟨⟨p0, p1, p2, p3, p4⟩, z0, z1, z2, z3, z4⟩ := pay_cells HR6.out
      obtain ⟨⟨q0, q1, q2, q3, q4⟩, y0, y1, y2, y3, y4⟩ := pay_cells HP6.out
      go_wp2_with fail
      clear p0 p1 p2 p3 p4 z0 z1 z2 z3 z4 q0 q1 q2 q3 q4 y0 y1 y2 y3 y4
      obtain ⟨⟨s0, s1, s2, s3, s4⟩, _⟩ := pay_cells HPF.out
      (try simp only [Exit.inBlock, Exit.then])
      refine bodyPost_ret (by simp [results, Try.results26, go_sem, s0, s1, s2, s3, s4]; try rfl) rfl ?_
      exact ⟨a6, k, c6, _, by rw [HQ.out]; rfl, HYF.out, fun _ => HXX.out, fun bb hb => by have := HGE.out bb hb; omega, HKF.out⟩
    )

set_option maxHeartbeats 3200000 in
theorem refpad_tt (fl st : Int) (a : Option Addr) (n cap : Nat) (xs : List UInt8) (w : World) (hx : By w a n cap xs) (hn : n ≤ 1000000) (hp : (bits .and .u8 fl 8 != 0) = true) (hq : (bits .and .u8 fl 32 != 0) = true) :
    Calls Try.prog 26 #[FrV 1 fl st a n cap] w (PayP 1 fl 1 xs w) := by
  have hpp : padP 1 fl = true := by simp [padP, hp]
  have hqq : prioP 1 fl = true := by simp [prioP, hq]
  have ha : aheadI 1 fl = 6 := by unfold aheadI; rw [hpp, hqq]; rfl
  have hl := hx.1
  have hcp := hx.2.le
  by_cases hc1 : cap = 1
  · subst hc1
    unfold FrV
    by_cases h1 : n < 1
    · have HQ : Hid (payQ 1 fl 1 xs = 1) := by show _ = _; unfold payQ; rw [ha, if_neg (by decide), if_neg (by decide), if_pos (by omega)]
      have h1d : decide ((n : Int) < 1) = true := by simp; omega
      (
        have HZ := Lib.hid (pay_cells ((Blk.new (w.alloc (.cells #[.int .u8 1, .int .u8 fl, .int .u32 st, .slice a n 1] 33 (0, 0))) #[.slice none 0 0, .slice none 0 0, .int .u32 0, .int .u32 0, .int .u32 0] 49)))
        have HKE := Lib.hid ((((Below.refl w.heap.size w).alloc (Nat.le_refl _) (.cells #[.int .u8 1, .int .u8 fl, .int .u32 st, .slice a n 1] 33 (0, 0))).alloc (by simp) (.cells #[.slice none 0 0, .slice none 0 0, .int .u32 0, .int .u32 0, .int .u32 0] 49 (0, 0))))
        simp only [World.size_alloc] at HZ
        clear hx hpp hqq ha hl
        go_enter Try.func26, Try.ntmps26
        go_wp2_with fail
        exact bodyPost_ret (by simp [results, Try.results26, go_sem, HZ.out.1.1, HZ.out.1.2.1, HZ.out.1.2.2.1, HZ.out.1.2.2.2.1, HZ.out.1.2.2.2.2]; try rfl) rfl ⟨none, 0, 0, [], by rw [HQ.out]; rfl, By.nil _, by rw [HQ.out]; intro h; omega, by simp, HKE.out⟩
      )
    obtain ⟨b, o, rfl, hblt, hcl⟩ := hx.get (by omega)
    cases xs with
    | nil => simp at hl; omega
    | cons y ys =>
    have hd0 : w.cell? ⟨b, o, none⟩ = some (.int .u8 (y.toNat : Int)) := hcl 0 (by simp)
    have hd1 : ((w.alloc (.cells #[.int .u8 1, .int .u8 fl, .int .u32 st, .slice (some ⟨b, o, none⟩) n 1] 33 (0, 0))).alloc (.cells #[.slice none 0 0, .slice none 0 0, .int .u32 0, .int .u32 0, .int .u32 0] 49 (0, 0))).cell? ⟨b, o, none⟩ = some (.int .u8 (y.toNat : Int)) := by
      have hk := ((Below.refl w.heap.size w).alloc (Nat.le_refl _) (.cells #[.int .u8 1, .int .u8 fl, .int .u32 st, .slice (some ⟨b, o, none⟩) n 1] 33 (0, 0))).alloc (by simp) (.cells #[.slice none 0 0, .slice none 0 0, .int .u32 0, .int .u32 0, .int .u32 0] 49 (0, 0))
      exact (hk.cell (p := ⟨b, o, none⟩) hblt).trans hd0
    have hpi : padI 1 fl (y :: ys) = y.toNat := by unfold padI; rw [hpp]; rfl
    have h1d : decide ((n : Int) < 1) = false := by simp; omega
    have hw : wrap64 (y.toNat : Int) = (y.toNat : Int) := by have := y.toNat_lt; unfold wrap64; omega
    have hw' : IntKind.i64.wrap (y.toNat : Int) = (y.toNat : Int) := by have := y.toNat_lt; rw [IntKind.wrap_i64]; omega
    have hn2 : (0 : Int) < (n : Int) := by omega
    have hn3 : (1 : Int) ≤ (n : Int) := by omega
    have hn4 : (n : Int) ≤ (1 : Int) := by omega
    have ho1 := offA_eq (some ⟨b, o, none⟩) 1 1
    have hlt2 := y.toNat_lt
    have ho5 := offA_eq (offA (some ⟨b, o, none⟩) 1 1) (1 - 1) 5
    by_cases h5 : n < 6
    · have HQ : Hid (payQ 1 fl 1 (y :: ys) = 1) := by show _ = _; unfold payQ; rw [ha, if_neg (by decide), if_neg (by decide), if_pos (by omega)]
      have h5d : decide ((n : Int) - 1 < 5) = true := by simp; omega
      (
        have HZ := Lib.hid (pay_cells (((Blk.new (w.alloc (.cells #[.int .u8 1, .int .u8 fl, .int .u32 st, .slice (some ⟨b, o, none⟩) n 1] 33 (0, 0))) #[.slice none 0 0, .slice none 0 0, .int .u32 0, .int .u32 0, .int .u32 0] 49).alloc (.cells #[.slice none 0 0, .slice none 0 0, .int .u32 0, .int .u32 0, .int .u32 0] 49 (0, 0))).drew))
        have HKE := Lib.hid (((((Below.refl w.heap.size w).alloc (Nat.le_refl _) (.cells #[.int .u8 1, .int .u8 fl, .int .u32 st, .slice (some ⟨b, o, none⟩) n 1] 33 (0, 0))).alloc (by simp) (.cells #[.slice none 0 0, .slice none 0 0, .int .u32 0, .int .u32 0, .int .u32 0] 49 (0, 0))).alloc (by simp; omega) (.cells #[.slice none 0 0, .slice none 0 0, .int .u32 0, .int .u32 0, .int .u32 0] 49 (0, 0))).drew)
        simp only [World.size_alloc] at HZ
        clear hx hpp hqq ha hl hcl
        go_enter Try.func26, Try.ntmps26
        go_wp2_with fail
        go_region_with fail
        all_goals (

          go_wp2_with fail
          exact bodyPost_ret (by simp [results, Try.results26, go_sem, HZ.out.1.1, HZ.out.1.2.1, HZ.out.1.2.2.1, HZ.out.1.2.2.2.1, HZ.out.1.2.2.2.2]; try rfl) rfl ⟨none, 0, 0, [], by rw [HQ.out]; rfl, By.nil _, by rw [HQ.out]; intro h; omega, by simp, HKE.out⟩
  )
      )
    omega

  by_cases hc6 : cap = 6
  · subst hc6
    unfold FrV
    by_cases h1 : n < 1
    · have HQ : Hid (payQ 1 fl 1 xs = 1) := by show _ = _; unfold payQ; rw [ha, if_neg (by decide), if_neg (by decide), if_pos (by omega)]
      have h1d : decide ((n : Int) < 1) = true := by simp; omega
      (
        have HZ := Lib.hid (pay_cells ((Blk.new (w.alloc (.cells #[.int .u8 1, .int .u8 fl, .int .u32 st, .slice a n 6] 33 (0, 0))) #[.slice none 0 0, .slice none 0 0, .int .u32 0, .int .u32 0, .int .u32 0] 49)))
        have HKE := Lib.hid ((((Below.refl w.heap.size w).alloc (Nat.le_refl _) (.cells #[.int .u8 1, .int .u8 fl, .int .u32 st, .slice a n 6] 33 (0, 0))).alloc (by simp) (.cells #[.slice none 0 0, .slice none 0 0, .int .u32 0, .int .u32 0, .int .u32 0] 49 (0, 0))))
        simp only [World.size_alloc] at HZ
        clear hx hpp hqq ha hl
        go_enter Try.func26, Try.ntmps26
        go_wp2_with fail
        exact bodyPost_ret (by simp [results, Try.results26, go_sem, HZ.out.1.1, HZ.out.1.2.1, HZ.out.1.2.2.1, HZ.out.1.2.2.2.1, HZ.out.1.2.2.2.2]; try rfl) rfl ⟨none, 0, 0, [], by rw [HQ.out]; rfl, By.nil _, by rw [HQ.out]; intro h; omega, by simp, HKE.out⟩
      )
    obtain ⟨b, o, rfl, hblt, hcl⟩ := hx.get (by omega)
    cases xs with
    | nil => simp at hl; omega
    | cons y ys =>
    have hd0 : w.cell? ⟨b, o, none⟩ = some (.int .u8 (y.toNat : Int)) := hcl 0 (by simp)
    have hd1 : ((w.alloc (.cells #[.int .u8 1, .int .u8 fl, .int .u32 st, .slice (some ⟨b, o, none⟩) n 6] 33 (0, 0))).alloc (.cells #[.slice none 0 0, .slice none 0 0, .int .u32 0, .int .u32 0, .int .u32 0] 49 (0, 0))).cell? ⟨b, o, none⟩ = some (.int .u8 (y.toNat : Int)) := by
      have hk := ((Below.refl w.heap.size w).alloc (Nat.le_refl _) (.cells #[.int .u8 1, .int .u8 fl, .int .u32 st, .slice (some ⟨b, o, none⟩) n 6] 33 (0, 0))).alloc (by simp) (.cells #[.slice none 0 0, .slice none 0 0, .int .u32 0, .int .u32 0, .int .u32 0] 49 (0, 0))
      exact (hk.cell (p := ⟨b, o, none⟩) hblt).trans hd0
    have hpi : padI 1 fl (y :: ys) = y.toNat := by unfold padI; rw [hpp]; rfl
    have h1d : decide ((n : Int) < 1) = false := by simp; omega
    have hw : wrap64 (y.toNat : Int) = (y.toNat : Int) := by have := y.toNat_lt; unfold wrap64; omega
    have hw' : IntKind.i64.wrap (y.toNat : Int) = (y.toNat : Int) := by have := y.toNat_lt; rw [IntKind.wrap_i64]; omega
    have hn2 : (0 : Int) < (n : Int) := by omega
    have hn3 : (1 : Int) ≤ (n : Int) := by omega
    have hn4 : (n : Int) ≤ (6 : Int) := by omega
    have ho1 := offA_eq (some ⟨b, o, none⟩) 6 1
    have hlt2 := y.toNat_lt
    have ho5 := offA_eq (offA (some ⟨b, o, none⟩) 6 1) (6 - 1) 5
    by_cases h5 : n < 6
    · have HQ : Hid (payQ 1 fl 1 (y :: ys) = 1) := by show _ = _; unfold payQ; rw [ha, if_neg (by decide), if_neg (by decide), if_pos (by omega)]
      have h5d : decide ((n : Int) - 1 < 5) = true := by simp; omega
      (
        have HZ := Lib.hid (pay_cells (((Blk.new (w.alloc (.cells #[.int .u8 1, .int .u8 fl, .int .u32 st, .slice (some ⟨b, o, none⟩) n 6] 33 (0, 0))) #[.slice none 0 0, .slice none 0 0, .int .u32 0, .int .u32 0, .int .u32 0] 49).alloc (.cells #[.slice none 0 0, .slice none 0 0, .int .u32 0, .int .u32 0, .int .u32 0] 49 (0, 0))).drew))
        have HKE := Lib.hid (((((Below.refl w.heap.size w).alloc (Nat.le_refl _) (.cells #[.int .u8 1, .int .u8 fl, .int .u32 st, .slice (some ⟨b, o, none⟩) n 6] 33 (0, 0))).alloc (by simp) (.cells #[.slice none 0 0, .slice none 0 0, .int .u32 0, .int .u32 0, .int .u32 0] 49 (0, 0))).alloc (by simp; omega) (.cells #[.slice none 0 0, .slice none 0 0, .int .u32 0, .int .u32 0, .int .u32 0] 49 (0, 0))).drew)
        simp only [World.size_alloc] at HZ
        clear hx hpp hqq ha hl hcl
        go_enter Try.func26, Try.ntmps26
        go_wp2_with fail
        go_region_with fail
        all_goals (

          go_wp2_with fail
          exact bodyPost_ret (by simp [results, Try.results26, go_sem, HZ.out.1.1, HZ.out.1.2.1, HZ.out.1.2.2.1, HZ.out.1.2.2.2.1, HZ.out.1.2.2.2.2]; try rfl) rfl ⟨none, 0, 0, [], by rw [HQ.out]; rfl, By.nil _, by rw [HQ.out]; intro h; omega, by simp, HKE.out⟩
  )
      )
    have h5d : decide ((n : Int) - 1 < 5) = false := by simp; omega
    have hn5 : (5 : Int) ≤ (n : Int) - 1 := by omega
    have hn6 : (n : Int) - 1 ≤ (6 : Int) - 1 := by omega
    by_cases h6 : n < 6 + y.toNat
    · have HQ : Hid (payQ 1 fl 1 (y :: ys) = 6) := by show _ = _; unfold payQ; rw [ha, hpi, if_neg (by decide), if_neg (by decide), if_neg (by omega), if_pos (by omega)]
      have h6d : decide ((n : Int) - 1 - 5 < (y.toNat : Int)) = true := by simp; omega
      (
        have HZ := Lib.hid (pay_cells (((Blk.new (w.alloc (.cells #[.int .u8 1, .int .u8 fl, .int .u32 st, .slice (some ⟨b, o, none⟩) n 6] 33 (0, 0))) #[.slice none 0 0, .slice none 0 0, .int .u32 0, .int .u32 0, .int .u32 0] 49).alloc (.cells #[.slice none 0 0, .slice none 0 0, .int .u32 0, .int .u32 0, .int .u32 0] 49 (0, 0))).drew))
        have HKE := Lib.hid (((((Below.refl w.heap.size w).alloc (Nat.le_refl _) (.cells #[.int .u8 1, .int .u8 fl, .int .u32 st, .slice (some ⟨b, o, none⟩) n 6] 33 (0, 0))).alloc (by simp) (.cells #[.slice none 0 0, .slice none 0 0, .int .u32 0, .int .u32 0, .int .u32 0] 49 (0, 0))).alloc (by simp; omega) (.cells #[.slice none 0 0, .slice none 0 0, .int .u32 0, .int .u32 0, .int .u32 0] 49 (0, 0))).drew)
        simp only [World.size_alloc] at HZ
        clear hx hpp hqq ha hl hcl hpi
        go_enter Try.func26, Try.ntmps26
        go_wp2_with fail
        go_region_with fail
        all_goals (

          go_wp2_with fail
          exact bodyPost_ret (by simp [results, Try.results26, go_sem, HZ.out.1.1, HZ.out.1.2.1, HZ.out.1.2.2.1, HZ.out.1.2.2.2.1, HZ.out.1.2.2.2.2]; try rfl) rfl ⟨none, 0, 0, [], by rw [HQ.out]; rfl, By.nil _, by rw [HQ.out]; intro h; omega, by simp, HKE.out⟩
  )
      )
    · obtain rfl : n = 6 := by omega
      obtain rfl : y = 0 := by
        have h0 : y.toNat = 0 := by omega
        exact UInt8.toNat_inj.1 (by simpa using h0)
      have HQ : Hid (payQ 1 fl 1 ((0 : UInt8) :: ys) = 0) := by show _ = _; unfold payQ; rw [ha, hpi, if_neg (by decide), if_neg (by decide), if_neg (by omega), if_neg (by first | omega | (simp at hl ⊢; omega) | simp)]
      have HXX : Hid ((ys.drop 5).take 0 = payX 1 fl ((0 : UInt8) :: ys)) := by show _ = _; unfold payX; rw [ha, hpi, if_neg (by decide), ← hl]; simp
      have h6d : decide ((6 : Int) - 1 - 5 < ((((0 : UInt8)).toNat : Nat) : Int)) = false := by simp

      have HK2 := Lib.hid (((((Below.refl w.heap.size w).alloc (Nat.le_refl _) (.cells #[.int .u8 1, .int .u8 fl, .int .u32 st, .slice (some ⟨b, o, none⟩) 6 6] 33 (0, 0))).alloc (by simp) (.cells #[.slice none 0 0, .slice none 0 0, .int .u32 0, .int .u32 0, .int .u32 0] 49 (0, 0))).alloc (by simp; omega) (.cells #[.slice none 0 0, .slice none 0 0, .int .u32 0, .int .u32 0, .int .u32 0] 49 (0, 0))).drew)
      have HR := Lib.hid ((Blk.new ((w.alloc (.cells #[.int .u8 1, .int .u8 fl, .int .u32 st, .slice (some ⟨b, o, none⟩) 6 6] 33 (0, 0))).alloc (.cells #[.slice none 0 0, .slice none 0 0, .int .u32 0, .int .u32 0, .int .u32 0] 49 (0, 0))) #[.slice none 0 0, .slice none 0 0, .int .u32 0, .int .u32 0, .int .u32 0] 49).drew)
      have HP := Lib.hid (((Blk.new (w.alloc (.cells #[.int .u8 1, .int .u8 fl, .int .u32 st, .slice (some ⟨b, o, none⟩) 6 6] 33 (0, 0))) #[.slice none 0 0, .slice none 0 0, .int .u32 0, .int .u32 0, .int .u32 0] 49).alloc (.cells #[.slice none 0 0, .slice none 0 0, .int .u32 0, .int .u32 0, .int .u32 0] 49 (0, 0))).drew)
      simp only [World.size_alloc] at HR HP
      have HX := Lib.hid ((((((hx.alloc (.cells #[.int .u8 1, .int .u8 fl, .int .u32 st, .slice (some ⟨b, o, none⟩) 6 6] 33 (0, 0))).alloc (.cells #[.slice none 0 0, .slice none 0 0, .int .u32 0, .int .u32 0, .int .u32 0] 49 (0, 0))).alloc (.cells #[.slice none 0 0, .slice none 0 0, .int .u32 0, .int .u32 0, .int .u32 0] 49 (0, 0))).drew').from 1 (by omega)).from 5 (by omega))
      simp only [List.drop_succ_cons, List.drop_zero] at HX
      clear hx hpp hqq ha hl hcl hpi hd0
      go_enter Try.func26, Try.ntmps26
      go_wp2_with (at_builtin; refine halt ?_)
      go_region_with fail
      all_goals (go_wp2_with (at_builtin; refine halt ?_))
      all_goals (

        refine Halted.go (wpList_copy8 _ rfl _ rfl _ (0) _ ((ys.drop 5).take (0)) rfl (By.pre (n := 0) ?_ (by omega)) (by omega) ?_)
        · first | exact HX.out | simpa [offA] using HX.out | simpa [offA, hc1, Addr.add] using HX.out
        intro a6 c6 w6 ho6 hk6
        have HR6 := Lib.hid ((Below.keeps hk6).blk HR.out (by simp))
        have HP6 := Lib.hid ((Below.keeps hk6).blk HP.out (by simp; omega))
        have HK6 := Lib.hid (HK2.out.trans (hk6.mono HK2.out.size))
        have HGE : Hid (∀ bb, a6.map (·.block) = some bb → w.heap.size + 3 ≤ bb) := Lib.hid (fun bb hb => by
          have h := (ho6.ge bb hb).1
          change (World.alloc _ _).heap.size ≤ bb at h
          simp only [World.size_alloc] at h
          omega)
        have HY6 := Lib.hid ho6.by
        clear ho6 hk6
        have HPF := Lib.hid (pay_set (((Keeps.refl (fun k => k = w.heap.size + 1 + 1) w6).put 0 (.slice a6 0 c6)).blk HP6.out (by simp)) (.slice a6 0 c6) (.slice none 0 0) (.int .u32 0) (.int .u32 0) (.int .u32 0))
        have hkA := ((Keeps.refl (fun k => k = w.heap.size + 1 + 1) w6).put 0 (.slice a6 0 c6))
        have hkB := pay_keep (w6.setCell ⟨w.heap.size + 1 + 1, 0, none⟩ (.slice a6 0 c6)) (w.heap.size + 1) (.slice a6 0 c6) (.slice none 0 0) (.int .u32 0) (.int .u32 0) (.int .u32 0)
        have HYF := Lib.hid ((HY6.out.keep hkA (fun bb hb e => by have := HGE.out bb hb; omega)).keep hkB (fun bb hb e => by have := HGE.out bb hb; omega))
        have HKA := Lib.hid (Keeps.below HK6.out hkA HK6.out.size (fun k hk => by omega))
        have HKF := Lib.hid (Keeps.below HKA.out hkB HKA.out.size (fun k hk => by omega))
        clear hkA hkB HK6 HKA HY6
        obtain ⟨⟨p0, p1, p2, p3, p4⟩, z0, z1, z2, z3, z4⟩ := pay_cells HR6.out
        obtain ⟨⟨q0, q1, q2, q3, q4⟩, y0, y1, y2, y3, y4⟩ := pay_cells HP6.out
        go_wp2_with fail
        clear p0 p1 p2 p3 p4 z0 z1 z2 z3 z4 q0 q1 q2 q3 q4 y0 y1 y2 y3 y4
        obtain ⟨⟨s0, s1, s2, s3, s4⟩, _⟩ := pay_cells HPF.out
        (try simp only [Exit.inBlock, Exit.then])
        refine bodyPost_ret (by simp [results, Try.results26, go_sem, s0, s1, s2, s3, s4]; try rfl) rfl ?_
        exact ⟨a6, 0, c6, _, by rw [HQ.out]; rfl, HYF.out, fun _ => HXX.out, fun bb hb => by have := HGE.out bb hb; omega, HKF.out⟩
      )

  unfold FrV
  by_cases h1 : n < 1
  · have HQ : Hid (payQ 1 fl 1 xs = 1) := by show _ = _; unfold payQ; rw [ha, if_neg (by decide), if_neg (by decide), if_pos (by omega)]
    have h1d : decide ((n : Int) < 1) = true := by simp; omega
    (
      have HZ := Lib.hid (pay_cells ((Blk.new (w.alloc (.cells #[.int .u8 1, .int .u8 fl, .int .u32 st, .slice a n cap] 33 (0, 0))) #[.slice none 0 0, .slice none 0 0, .int .u32 0, .int .u32 0, .int .u32 0] 49)))
      have HKE := Lib.hid ((((Below.refl w.heap.size w).alloc (Nat.le_refl _) (.cells #[.int .u8 1, .int .u8 fl, .int .u32 st, .slice a n cap] 33 (0, 0))).alloc (by simp) (.cells #[.slice none 0 0, .slice none 0 0, .int .u32 0, .int .u32 0, .int .u32 0] 49 (0, 0))))
      simp only [World.size_alloc] at HZ
      clear hx hpp hqq ha hl
      go_enter Try.func26, Try.ntmps26
      go_wp2_with fail
      exact bodyPost_ret (by simp [results, Try.results26, go_sem, HZ.out.1.1, HZ.out.1.2.1, HZ.out.1.2.2.1, HZ.out.1.2.2.2.1, HZ.out.1.2.2.2.2]; try rfl) rfl ⟨none, 0, 0, [], by rw [HQ.out]; rfl, By.nil _, by rw [HQ.out]; intro h; omega, by simp, HKE.out⟩
    )
  obtain ⟨b, o, rfl, hblt, hcl⟩ := hx.get (by omega)
  cases xs with
  | nil => simp at hl; omega
  | cons y ys =>
  have hd0 : w.cell? ⟨b, o, none⟩ = some (.int .u8 (y.toNat : Int)) := hcl 0 (by simp)
  have hd1 : ((w.alloc (.cells #[.int .u8 1, .int .u8 fl, .int .u32 st, .slice (some ⟨b, o, none⟩) n cap] 33 (0, 0))).alloc (.cells #[.slice none 0 0, .slice none 0 0, .int .u32 0, .int .u32 0, .int .u32 0] 49 (0, 0))).cell? ⟨b, o, none⟩ = some (.int .u8 (y.toNat : Int)) := by
    have hk := ((Below.refl w.heap.size w).alloc (Nat.le_refl _) (.cells #[.int .u8 1, .int .u8 fl, .int .u32 st, .slice (some ⟨b, o, none⟩) n cap] 33 (0, 0))).alloc (by simp) (.cells #[.slice none 0 0, .slice none 0 0, .int .u32 0, .int .u32 0, .int .u32 0] 49 (0, 0))
    exact (hk.cell (p := ⟨b, o, none⟩) hblt).trans hd0
  have hpi : padI 1 fl (y :: ys) = y.toNat := by unfold padI; rw [hpp]; rfl
  have h1d : decide ((n : Int) < 1) = false := by simp; omega
  have hw : wrap64 (y.toNat : Int) = (y.toNat : Int) := by have := y.toNat_lt; unfold wrap64; omega
  have hw' : IntKind.i64.wrap (y.toNat : Int) = (y.toNat : Int) := by have := y.toNat_lt; rw [IntKind.wrap_i64]; omega
  have hn2 : (0 : Int) < (n : Int) := by omega
  have hn3 : (1 : Int) ≤ (n : Int) := by omega
  have hn4 : (n : Int) ≤ (cap : Int) := by omega
  have ho1 := offA_eq (some ⟨b, o, none⟩) cap 1
  have hlt2 := y.toNat_lt
  have ho5 := offA_eq (offA (some ⟨b, o, none⟩) cap 1) (cap - 1) 5
  by_cases h5 : n < 6
  · have HQ : Hid (payQ 1 fl 1 (y :: ys) = 1) := by show _ = _; unfold payQ; rw [ha, if_neg (by decide), if_neg (by decide), if_pos (by omega)]
    have h5d : decide ((n : Int) - 1 < 5) = true := by simp; omega
    (
      have HZ := Lib.hid (pay_cells (((Blk.new (w.alloc (.cells #[.int .u8 1, .int .u8 fl, .int .u32 st, .slice (some ⟨b, o, none⟩) n cap] 33 (0, 0))) #[.slice none 0 0, .slice none 0 0, .int .u32 0, .int .u32 0, .int .u32 0] 49).alloc (.cells #[.slice none 0 0, .slice none 0 0, .int .u32 0, .int .u32 0, .int .u32 0] 49 (0, 0))).drew))
      have HKE := Lib.hid (((((Below.refl w.heap.size w).alloc (Nat.le_refl _) (.cells #[.int .u8 1, .int .u8 fl, .int .u32 st, .slice (some ⟨b, o, none⟩) n cap] 33 (0, 0))).alloc (by simp) (.cells #[.slice none 0 0, .slice none 0 0, .int .u32 0, .int .u32 0, .int .u32 0] 49 (0, 0))).alloc (by simp; omega) (.cells #[.slice none 0 0, .slice none 0 0, .int .u32 0, .int .u32 0, .int .u32 0] 49 (0, 0))).drew)
      simp only [World.size_alloc] at HZ
      clear hx hpp hqq ha hl hcl
      go_enter Try.func26, Try.ntmps26
      go_wp2_with fail
      go_region_with fail
      all_goals (

        go_wp2_with fail
        exact bodyPost_ret (by simp [results, Try.results26, go_sem, HZ.out.1.1, HZ.out.1.2.1, HZ.out.1.2.2.1, HZ.out.1.2.2.2.1, HZ.out.1.2.2.2.2]; try rfl) rfl ⟨none, 0, 0, [], by rw [HQ.out]; rfl, By.nil _, by rw [HQ.out]; intro h; omega, by simp, HKE.out⟩
)
    )
  have h5d : decide ((n : Int) - 1 < 5) = false := by simp; omega
  have hn5 : (5 : Int) ≤ (n : Int) - 1 := by omega
  have hn6 : (n : Int) - 1 ≤ (cap : Int) - 1 := by omega
  by_cases h6 : n < 6 + y.toNat
  · have HQ : Hid (payQ 1 fl 1 (y :: ys) = 6) := by show _ = _; unfold payQ; rw [ha, hpi, if_neg (by decide), if_neg (by decide), if_neg (by omega), if_pos (by omega)]
    have h6d : decide ((n : Int) - 1 - 5 < (y.toNat : Int)) = true := by simp; omega
    (
      have HZ := Lib.hid (pay_cells (((Blk.new (w.alloc (.cells #[.int .u8 1, .int .u8 fl, .int .u32 st, .slice (some ⟨b, o, none⟩) n cap] 33 (0, 0))) #[.slice none 0 0, .slice none 0 0, .int .u32 0, .int .u32 0, .int .u32 0] 49).alloc (.cells #[.slice none 0 0, .slice none 0 0, .int .u32 0, .int .u32 0, .int .u32 0] 49 (0, 0))).drew))
      have HKE := Lib.hid (((((Below.refl w.heap.size w).alloc (Nat.le_refl _) (.cells #[.int .u8 1, .int .u8 fl, .int .u32 st, .slice (some ⟨b, o, none⟩) n cap] 33 (0, 0))).alloc (by simp) (.cells #[.slice none 0 0, .slice none 0 0, .int .u32 0, .int .u32 0, .int .u32 0] 49 (0, 0))).alloc (by simp; omega) (.cells #[.slice none 0 0, .slice none 0 0, .int .u32 0, .int .u32 0, .int .u32 0] 49 (0, 0))).drew)
      simp only [World.size_alloc] at HZ
      clear hx hpp hqq ha hl hcl hpi
      go_enter Try.func26, Try.ntmps26
      go_wp2_with fail
      go_region_with fail
      all_goals (

        go_wp2_with fail
        exact bodyPost_ret (by simp [results, Try.results26, go_sem, HZ.out.1.1, HZ.out.1.2.1, HZ.out.1.2.2.1, HZ.out.1.2.2.2.1, HZ.out.1.2.2.2.2]; try rfl) rfl ⟨none, 0, 0, [], by rw [HQ.out]; rfl, By.nil _, by rw [HQ.out]; intro h; omega, by simp, HKE.out⟩
)
    )
  · have HQ : Hid (payQ 1 fl 1 (y :: ys) = 0) := by show _ = _; unfold payQ; rw [ha, hpi, if_neg (by decide), if_neg (by decide), if_neg (by omega), if_neg (by first | omega | (simp at hl ⊢; omega) | simp)]
    have HXX : Hid ((ys.drop 5).take (n - 1 - 5 - y.toNat) = payX 1 fl (y :: ys)) := by show _ = _; unfold payX; rw [ha, hpi, if_neg (by decide), ← hl, Int.toNat_natCast]; simp [show n - y.toNat - 6 = n - 1 - 5 - y.toNat by omega]
    have h6d : decide ((n : Int) - 1 - 5 < (y.toNat : Int)) = false := by simp; omega
    have hw3 : IntKind.i64.wrap ((n : Int) - 1 - 5 - (y.toNat : Int)) = ((n - 1 - 5 - y.toNat : Nat) : Int) := by rw [IntKind.wrap_i64]; omega
    have hw4 : wrap64 ((n : Int) - 1 - 5 - (y.toNat : Int)) = ((n - 1 - 5 - y.toNat : Nat) : Int) := by unfold wrap64; omega

    have HK2 := Lib.hid (((((Below.refl w.heap.size w).alloc (Nat.le_refl _) (.cells #[.int .u8 1, .int .u8 fl, .int .u32 st, .slice (some ⟨b, o, none⟩) n cap] 33 (0, 0))).alloc (by simp) (.cells #[.slice none 0 0, .slice none 0 0, .int .u32 0, .int .u32 0, .int .u32 0] 49 (0, 0))).alloc (by simp; omega) (.cells #[.slice none 0 0, .slice none 0 0, .int .u32 0, .int .u32 0, .int .u32 0] 49 (0, 0))).drew)
    have HR := Lib.hid ((Blk.new ((w.alloc (.cells #[.int .u8 1, .int .u8 fl, .int .u32 st, .slice (some ⟨b, o, none⟩) n cap] 33 (0, 0))).alloc (.cells #[.slice none 0 0, .slice none 0 0, .int .u32 0, .int .u32 0, .int .u32 0] 49 (0, 0))) #[.slice none 0 0, .slice none 0 0, .int .u32 0, .int .u32 0, .int .u32 0] 49).drew)
    have HP := Lib.hid (((Blk.new (w.alloc (.cells #[.int .u8 1, .int .u8 fl, .int .u32 st, .slice (some ⟨b, o, none⟩) n cap] 33 (0, 0))) #[.slice none 0 0, .slice none 0 0, .int .u32 0, .int .u32 0, .int .u32 0] 49).alloc (.cells #[.slice none 0 0, .slice none 0 0, .int .u32 0, .int .u32 0, .int .u32 0] 49 (0, 0))).drew)
    simp only [World.size_alloc] at HR HP
    have HX := Lib.hid ((((((hx.alloc (.cells #[.int .u8 1, .int .u8 fl, .int .u32 st, .slice (some ⟨b, o, none⟩) n cap] 33 (0, 0))).alloc (.cells #[.slice none 0 0, .slice none 0 0, .int .u32 0, .int .u32 0, .int .u32 0] 49 (0, 0))).alloc (.cells #[.slice none 0 0, .slice none 0 0, .int .u32 0, .int .u32 0, .int .u32 0] 49 (0, 0))).drew').from 1 (by omega)).from 5 (by omega))
    simp only [List.drop_succ_cons, List.drop_zero] at HX
    clear hx hpp hqq ha hl hcl hpi hd0
    go_enter Try.func26, Try.ntmps26
    go_wp2_with (at_builtin; refine halt ?_)
    go_region_with fail
    all_goals (go_wp2_with (at_builtin; refine halt ?_))
    all_goals (

      refine Halted.go (wpList_copy8 _ rfl _ rfl _ (n - 1 - 5 - y.toNat) _ ((ys.drop 5).take (n - 1 - 5 - y.toNat)) rfl (By.pre (n := n - 1 - 5) ?_ (by omega)) (by omega) ?_)
      · first | exact HX.out | simpa [offA] using HX.out | simpa [offA, hc1, Addr.add] using HX.out | simpa [offA, hc1, hc6, Addr.add] using HX.out
      intro a6 c6 w6 ho6 hk6
      have HR6 := Lib.hid ((Below.keeps hk6).blk HR.out (by simp))
      have HP6 := Lib.hid ((Below.keeps hk6).blk HP.out (by simp; omega))
      have HK6 := Lib.hid (HK2.out.trans (hk6.mono HK2.out.size))
      have HGE : Hid (∀ bb, a6.map (·.block) = some bb → w.heap.size + 3 ≤ bb) := Lib.hid (fun bb hb => by
        have h := (ho6.ge bb hb).1
        change (World.alloc _ _).heap.size ≤ bb at h
        simp only [World.size_alloc] at h
        omega)
      have HY6 := Lib.hid ho6.by
      clear ho6 hk6
      generalize hkk : n - 1 - 5 - y.toNat = k at *
      have HN := Lib.hid hkk
      clear hkk
      have HPF := Lib.hid (pay_set (((Keeps.refl (fun k => k = w.heap.size + 1 + 1) w6).put 0 (.slice a6 k c6)).blk HP6.out (by simp)) (.slice a6 k c6) (.slice none 0 0) (.int .u32 0) (.int .u32 0) (.int .u32 0))
      have hkA := ((Keeps.refl (fun k => k = w.heap.size + 1 + 1) w6).put 0 (.slice a6 k c6))
      have hkB := pay_keep (w6.setCell ⟨w.heap.size + 1 + 1, 0, none⟩ (.slice a6 k c6)) (w.heap.size + 1) (.slice a6 k c6) (.slice none 0 0) (.int .u32 0) (.int .u32 0) (.int .u32 0)
      have HYF := Lib.hid ((HY6.out.keep hkA (fun bb hb e => by have := HGE.out bb hb; omega)).keep hkB (fun bb hb e => by have := HGE.out bb hb; omega))
      have HKA := Lib.hid (Keeps.below HK6.out hkA HK6.out.size (fun k hk => by omega))
      have HKF := Lib.hid (Keeps.below HKA.out hkB HKA.out.size (fun k hk => by omega))
      clear hkA hkB HK6 HKA HY6
      obtain ⟨⟨p0, p1, p2, p3, p4⟩, z0, z1, z2, z3, z4⟩ := pay_cells HR6.out
      obtain ⟨⟨q0, q1, q2, q3, q4⟩, y0, y1, y2, y3, y4⟩ := pay_cells HP6.out
      go_wp2_with fail
      clear p0 p1 p2 p3 p4 z0 z1 z2 z3 z4 q0 q1 q2 q3 q4 y0 y1 y2 y3 y4
      obtain ⟨⟨s0, s1, s2, s3, s4⟩, _⟩ := pay_cells HPF.out
      (try simp only [Exit.inBlock, Exit.then])
      refine bodyPost_ret (by simp [results, Try.results26, go_sem, s0, s1, s2, s3, s4]; try rfl) rfl ?_
      exact ⟨a6, k, c6, _, by rw [HQ.out]; rfl, HYF.out, fun _ => HXX.out, fun bb hb => by have := HGE.out bb hb; omega, HKF.out⟩
    )

end Go.Proofs.Ytcfljnlfikkhaaa
