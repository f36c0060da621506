/- The document's own reader of padded payloads: data and headers with the padding's flag. -/
import Derived.Test.YtcfljnlfikkhaaaPayD
import Derived.Deep.RegionWith
namespace Go.Proofs.Ytcfljnlfikkhaaa
open Go.RowKit Go.Deep

theorem offA_zero (a : Option Addr) (cap : Nat) : offA a cap 0 = a := by
  unfold offA
  split
  · rfl
  · cases a with
    | none => rfl
    | some x =>
      obtain ⟨b, o, s⟩ := x
      show some (Addr.add _ 0) = _
      unfold Addr.add
      cases s <;> simp
theorem By.pre {w : World} {a : Option Addr} {n cap : Nat} {xs : List UInt8} (h : By w a n cap xs) {k : Nat} (hk : k ≤ n) : By w a k cap (xs.take k) := by
  have := h.mid 0 k (Nat.zero_le _) hk
  rwa [offA_zero, Nat.sub_zero, Nat.sub_zero, List.drop_zero] at this

set_option maxHeartbeats 3200000 in
theorem refpad_any (t fl st : Int) (b o : Nat) (n cap : Nat) (y : UInt8) (ys : List UInt8) (ah : Nat) (w : World) (hx : By w (some ⟨b, o, none⟩) n cap (y :: ys)) (hn : n ≤ 1000000) (hc : (t = 0 ∧ fl = 8 ∧ ah = 1) ∨ (t = 1 ∧ fl = 8 ∧ ah = 1) ∨ (t = 1 ∧ fl = 40 ∧ ah = 6)) (hl : ah ≤ n) :
    Calls Try.prog 26 #[FrV t fl st (some ⟨b, o, none⟩) n cap] w fun e w' => Below w.heap.size w w' ∧
      ((n < ah + y.toNat ∧ e = .returned (.tuple #[Py0, .int .i64 6])) ∨
       (ah + y.toNat ≤ n ∧ ∃ a' c', e = .returned (.tuple #[PyV a' (n - y.toNat - ah) c' none 0 0 0 0 0, .int .i64 0]) ∧ By w' a' (n - y.toNat - ah) c' (((y :: ys).drop ah).take (n - y.toNat - ah)) ∧ ∀ bb, a'.map (·.block) = some bb → w.heap.size ≤ bb)) := by
  have hk0 := (Below.refl w.heap.size w).alloc (Nat.le_refl _) (.cells #[.int .u8 t, .int .u8 fl, .int .u32 st, .slice (some ⟨b, o, none⟩) n cap] 33 (0, 0))
  have hb0 := Blk.new w #[.int .u8 t, .int .u8 fl, .int .u32 st, .slice (some ⟨b, o, none⟩) n cap] 33
  have hd0 : w.cell? ⟨b, o, none⟩ = some (.int .u8 (y.toNat : Int)) := by
    have hl := hx.1
    simp at hl
    obtain ⟨b', o', h1, hlt, hc⟩ := hx.get (by omega)
    cases h1
    exact hc 0 (by simp)
  have hblt : b < w.heap.size := by
    have hl := hx.1
    simp at hl
    obtain ⟨b', o', h1, hlt, hc⟩ := hx.get (by omega)
    cases h1
    exact hlt
  have HK0 := Lib.hid hk0
  have HB0 := Lib.hid hb0
  have HX := Lib.hid (hx.alloc (.cells #[.int .u8 t, .int .u8 fl, .int .u32 st, .slice (some ⟨b, o, none⟩) n cap] 33 (0, 0)))
  have HD := Lib.hid hd0
  have HLT := Lib.hid hblt
  have hnp : 0 < n := by have hl := hx.1; simp at hl; omega
  clear hk0 hb0 hx hd0 hblt
  have hn' : decide ((n : Int) < 1) = false := by simp; omega
  have hw : wrap64 (y.toNat : Int) = (y.toNat : Int) := by have := y.toNat_lt; unfold wrap64; omega
  have hd1 : ((w.alloc (.cells #[.int .u8 t, .int .u8 fl, .int .u32 st, .slice (some ⟨b, o, none⟩) n cap] 33 (0, 0))).alloc (.cells #[.slice none 0 0, .slice none 0 0, .int .u32 0, .int .u32 0, .int .u32 0] 49 (0, 0))).cell? ⟨b, o, none⟩ = some (.int .u8 (y.toNat : Int)) := by
    have hg := HX.out.alloc (.cells #[.slice none 0 0, .slice none 0 0, .int .u32 0, .int .u32 0, .int .u32 0] 49 (0, 0))
    obtain ⟨b', o', h1, hlt, hc⟩ := hg.get hnp
    cases h1
    exact hc 0 (by simp)
  have HK1 := Lib.hid (HK0.out.alloc (by simp) (.cells #[.slice none 0 0, .slice none 0 0, .int .u32 0, .int .u32 0, .int .u32 0] 49 (0, 0)))
  have HK2 := Lib.hid (HK1.out.alloc (by simp; omega) (.cells #[.slice none 0 0, .slice none 0 0, .int .u32 0, .int .u32 0, .int .u32 0] 49 (0, 0))).drew
  have HY := Lib.hid ((((HX.out.alloc (.cells #[.slice none 0 0, .slice none 0 0, .int .u32 0, .int .u32 0, .int .u32 0] 49 (0, 0))).alloc (.cells #[.slice none 0 0, .slice none 0 0, .int .u32 0, .int .u32 0, .int .u32 0] 49 (0, 0))).drew').from 1 hnp)
  have HR := Lib.hid ((Blk.new ((w.alloc (.cells #[.int .u8 t, .int .u8 fl, .int .u32 st, .slice (some ⟨b, o, none⟩) n cap] 33 (0, 0))).alloc (.cells #[.slice none 0 0, .slice none 0 0, .int .u32 0, .int .u32 0, .int .u32 0] 49 (0, 0))) #[.slice none 0 0, .slice none 0 0, .int .u32 0, .int .u32 0, .int .u32 0] 49).drew)
  have HP := Lib.hid (((Blk.new (w.alloc (.cells #[.int .u8 t, .int .u8 fl, .int .u32 st, .slice (some ⟨b, o, none⟩) n cap] 33 (0, 0))) #[.slice none 0 0, .slice none 0 0, .int .u32 0, .int .u32 0, .int .u32 0] 49).alloc (.cells #[.slice none 0 0, .slice none 0 0, .int .u32 0, .int .u32 0, .int .u32 0] 49 (0, 0))).drew)
  simp only [World.size_alloc, List.drop_succ_cons, List.drop_zero] at HY HR HP
  have HZ := Lib.hid (pay_cells (Blk.new ((w.alloc (.cells #[.int .u8 t, .int .u8 fl, .int .u32 st, .slice (some ⟨b, o, none⟩) n cap] 33 (0, 0))).alloc (.cells #[.slice none 0 0, .slice none 0 0, .int .u32 0, .int .u32 0, .int .u32 0] 49 (0, 0))) #[.slice none 0 0, .slice none 0 0, .int .u32 0, .int .u32 0, .int .u32 0] 49).drew)
  simp only [World.size_alloc] at HZ
  have hn2 : (0 : Int) < (n : Int) := by omega
  have hn3 : (1 : Int) ≤ (n : Int) := by omega
  have hnc : n ≤ cap := HX.out.2.le
  have hn4 : (n : Int) ≤ (cap : Int) := by omega
  have ho1 := offA_eq (some ⟨b, o, none⟩) cap 1
  unfold FrV
  rcases hc with ⟨rfl, rfl, rfl⟩ | ⟨rfl, rfl, rfl⟩ | ⟨rfl, rfl, rfl⟩
  · go_enter Try.func26, Try.ntmps26
    go_wp2_with (at_builtin; refine halt ?_)
    go_region_with fail
    all_goals (go_wp2_with (at_builtin; refine halt ?_))
    all_goals (first
      | (
        (try subst h)
        exact bodyPost_ret (by simp [results, Try.results26, go_sem, HZ.out.1.1, HZ.out.1.2.1, HZ.out.1.2.2.1, HZ.out.1.2.2.2.1, HZ.out.1.2.2.2.2]; try rfl) rfl ⟨HK2.out, .inl ⟨by omega, rfl⟩⟩)
      | (
        (try subst h)
        clear HD HLT hd1 hn' hw hn2 hn3 hn4 ho1 HK0 HB0 HX HK1
        refine Halted.go (wpList_copy8 _ rfl _ rfl _ (n - 1 - y.toNat) _ ((ys).take (n - 1 - y.toNat)) rfl (By.pre (n := n - 1) ?_ (by omega)) (by omega) ?_)
        · first | exact HY.out | simpa [offA, h, Addr.add] using HY.out
        intro a6 c6 w6 ho6 hk6
        have HR6 := Lib.hid ((Below.keeps hk6).blk HR.out (by simp))
        have HP6 := Lib.hid ((Below.keeps hk6).blk HP.out (by simp; omega))
        have HK6 := Lib.hid (HK2.out.trans (hk6.mono HK2.out.size))
        have HGE : Hid (∀ bb, a6.map (·.block) = some bb → w.heap.size + 3 ≤ bb) := Lib.hid (fun bb hb => by
          have h := (ho6.ge bb hb).1
          change (World.alloc _ _).heap.size ≤ bb at h
          simp only [World.size_alloc] at h
          omega)
        have HY6 := Lib.hid ho6.by
        clear ho6 hk6 HY
        generalize hkk : n - 1 - y.toNat = k at HY6 ⊢
        have HN := Lib.hid hkk
        clear hkk
        have HPF := Lib.hid (pay_set (((Keeps.refl (fun k => k = w.heap.size + 1 + 1) w6).put 0 (.slice a6 k c6)).blk HP6.out (by simp)) (.slice a6 k c6) (.slice none 0 0) (.int .u32 0) (.int .u32 0) (.int .u32 0))
        have hkA := ((Keeps.refl (fun k => k = w.heap.size + 1 + 1) w6).put 0 (.slice a6 k c6))
        have hkB := pay_keep (w6.setCell ⟨w.heap.size + 1 + 1, 0, none⟩ (.slice a6 k c6)) (w.heap.size + 1) (.slice a6 k c6) (.slice none 0 0) (.int .u32 0) (.int .u32 0) (.int .u32 0)
        have HYF := Lib.hid ((HY6.out.keep hkA (fun bb hb e => by have := HGE.out bb hb; omega)).keep hkB (fun bb hb e => by have := HGE.out bb hb; omega))
        have HKA := Lib.hid (Keeps.below HK6.out hkA HK6.out.size (fun k hk => by omega))
        have HKF := Lib.hid (Keeps.below HKA.out hkB HKA.out.size (fun k hk => by omega))
        clear hkA hkB HK6 HKA HY6
        obtain ⟨⟨p0, p1, p2, p3, p4⟩, z0, z1, z2, z3, z4⟩ := pay_cells HR6.out
        obtain ⟨⟨q0, q1, q2, q3, q4⟩, y0, y1, y2, y3, y4⟩ := pay_cells HP6.out
        go_wp2_with fail
        clear p0 p1 p2 p3 p4 z0 z1 z2 z3 z4 q0 q1 q2 q3 q4 y0 y1 y2 y3 y4
        obtain ⟨⟨s0, s1, s2, s3, s4⟩, _⟩ := pay_cells HPF.out
        (try simp only [Exit.inBlock, Exit.then])
        refine bodyPost_ret (by simp [results, Try.results26, go_sem, s0, s1, s2, s3, s4]; try rfl) rfl ?_
        have hk' : n - y.toNat - 1 = k := by have := HN.out; omega
        rw [hk']
        exact ⟨HKF.out, .inr ⟨by omega, a6, c6, rfl, HYF.out, fun bb hb => by have := HGE.out bb hb; omega⟩⟩))
  · go_enter Try.func26, Try.ntmps26
    go_wp2_with (at_builtin; refine halt ?_)
    go_region_with fail
    all_goals (go_wp2_with (at_builtin; refine halt ?_))
    all_goals (first
      | (
        (try subst h)
        exact bodyPost_ret (by simp [results, Try.results26, go_sem, HZ.out.1.1, HZ.out.1.2.1, HZ.out.1.2.2.1, HZ.out.1.2.2.2.1, HZ.out.1.2.2.2.2]; try rfl) rfl ⟨HK2.out, .inl ⟨by omega, rfl⟩⟩)
      | (
        (try subst h)
        clear HD HLT hd1 hn' hw hn2 hn3 hn4 ho1 HK0 HB0 HX HK1
        refine Halted.go (wpList_copy8 _ rfl _ rfl _ (n - 1 - y.toNat) _ ((ys).take (n - 1 - y.toNat)) rfl (By.pre (n := n - 1) ?_ (by omega)) (by omega) ?_)
        · first | exact HY.out | simpa [offA, h, Addr.add] using HY.out
        intro a6 c6 w6 ho6 hk6
        have HR6 := Lib.hid ((Below.keeps hk6).blk HR.out (by simp))
        have HP6 := Lib.hid ((Below.keeps hk6).blk HP.out (by simp; omega))
        have HK6 := Lib.hid (HK2.out.trans (hk6.mono HK2.out.size))
        have HGE : Hid (∀ bb, a6.map (·.block) = some bb → w.heap.size + 3 ≤ bb) := Lib.hid (fun bb hb => by
          have h := (ho6.ge bb hb).1
          change (World.alloc _ _).heap.size ≤ bb at h
          simp only [World.size_alloc] at h
          omega)
        have HY6 := Lib.hid ho6.by
        clear ho6 hk6 HY
        generalize hkk : n - 1 - y.toNat = k at HY6 ⊢
        have HN := Lib.hid hkk
        clear hkk
        have HPF := Lib.hid (pay_set (((Keeps.refl (fun k => k = w.heap.size + 1 + 1) w6).put 0 (.slice a6 k c6)).blk HP6.out (by simp)) (.slice a6 k c6) (.slice none 0 0) (.int .u32 0) (.int .u32 0) (.int .u32 0))
        have hkA := ((Keeps.refl (fun k => k = w.heap.size + 1 + 1) w6).put 0 (.slice a6 k c6))
        have hkB := pay_keep (w6.setCell ⟨w.heap.size + 1 + 1, 0, none⟩ (.slice a6 k c6)) (w.heap.size + 1) (.slice a6 k c6) (.slice none 0 0) (.int .u32 0) (.int .u32 0) (.int .u32 0)
        have HYF := Lib.hid ((HY6.out.keep hkA (fun bb hb e => by have := HGE.out bb hb; omega)).keep hkB (fun bb hb e => by have := HGE.out bb hb; omega))
        have HKA := Lib.hid (Keeps.below HK6.out hkA HK6.out.size (fun k hk => by omega))
        have HKF := Lib.hid (Keeps.below HKA.out hkB HKA.out.size (fun k hk => by omega))
        clear hkA hkB HK6 HKA HY6
        obtain ⟨⟨p0, p1, p2, p3, p4⟩, z0, z1, z2, z3, z4⟩ := pay_cells HR6.out
        obtain ⟨⟨q0, q1, q2, q3, q4⟩, y0, y1, y2, y3, y4⟩ := pay_cells HP6.out
        go_wp2_with fail
        clear p0 p1 p2 p3 p4 z0 z1 z2 z3 z4 q0 q1 q2 q3 q4 y0 y1 y2 y3 y4
        obtain ⟨⟨s0, s1, s2, s3, s4⟩, _⟩ := pay_cells HPF.out
        (try simp only [Exit.inBlock, Exit.then])
        refine bodyPost_ret (by simp [results, Try.results26, go_sem, s0, s1, s2, s3, s4]; try rfl) rfl ?_
        have hk' : n - y.toNat - 1 = k := by have := HN.out; omega
        rw [hk']
        exact ⟨HKF.out, .inr ⟨by omega, a6, c6, rfl, HYF.out, fun bb hb => by have := HGE.out bb hb; omega⟩⟩))
  · go_enter Try.func26, Try.ntmps26
    go_wp2_with (at_builtin; refine halt ?_)
    go_region_with fail
    all_goals (go_wp2_with (at_builtin; refine halt ?_))
    all_goals (first
      | (
        (try subst h)
        exact bodyPost_ret (by simp [results, Try.results26, go_sem, HZ.out.1.1, HZ.out.1.2.1, HZ.out.1.2.2.1, HZ.out.1.2.2.2.1, HZ.out.1.2.2.2.2]; try rfl) rfl ⟨HK2.out, .inl ⟨by omega, rfl⟩⟩)
      | (
        (try subst h)
        clear HD HLT hd1 hn' hw hn2 hn3 hn4 ho1 HK0 HB0 HX HK1
        refine Halted.go (wpList_copy8 _ rfl _ rfl _ (n - 1 - 5 - y.toNat) _ ((ys.drop 5).take (n - 1 - 5 - y.toNat)) rfl (By.pre (n := n - 1 - 5) ?_ (by omega)) (by omega) ?_)
        · first | (have hc1 : ¬ cap = 1 := (by omega); have hc5 : ¬ cap - 1 = 5 := (by omega); simpa [offA, hc1, hc5, Addr.add] using HY.out.from 5 (by omega)) | simpa [offA, Addr.add] using HY.out.from 5 (by omega)
        intro a6 c6 w6 ho6 hk6
        have HR6 := Lib.hid ((Below.keeps hk6).blk HR.out (by simp))
        have HP6 := Lib.hid ((Below.keeps hk6).blk HP.out (by simp; omega))
        have HK6 := Lib.hid (HK2.out.trans (hk6.mono HK2.out.size))
        have HGE : Hid (∀ bb, a6.map (·.block) = some bb → w.heap.size + 3 ≤ bb) := Lib.hid (fun bb hb => by
          have h := (ho6.ge bb hb).1
          change (World.alloc _ _).heap.size ≤ bb at h
          simp only [World.size_alloc] at h
          omega)
        have HY6 := Lib.hid ho6.by
        clear ho6 hk6 HY
        generalize hkk : n - 1 - 5 - y.toNat = k at HY6 ⊢
        have HN := Lib.hid hkk
        clear hkk
        have HPF := Lib.hid (pay_set (((Keeps.refl (fun k => k = w.heap.size + 1 + 1) w6).put 0 (.slice a6 k c6)).blk HP6.out (by simp)) (.slice a6 k c6) (.slice none 0 0) (.int .u32 0) (.int .u32 0) (.int .u32 0))
        have hkA := ((Keeps.refl (fun k => k = w.heap.size + 1 + 1) w6).put 0 (.slice a6 k c6))
        have hkB := pay_keep (w6.setCell ⟨w.heap.size + 1 + 1, 0, none⟩ (.slice a6 k c6)) (w.heap.size + 1) (.slice a6 k c6) (.slice none 0 0) (.int .u32 0) (.int .u32 0) (.int .u32 0)
        have HYF := Lib.hid ((HY6.out.keep hkA (fun bb hb e => by have := HGE.out bb hb; omega)).keep hkB (fun bb hb e => by have := HGE.out bb hb; omega))
        have HKA := Lib.hid (Keeps.below HK6.out hkA HK6.out.size (fun k hk => by omega))
        have HKF := Lib.hid (Keeps.below HKA.out hkB HKA.out.size (fun k hk => by omega))
        clear hkA hkB HK6 HKA HY6
        obtain ⟨⟨p0, p1, p2, p3, p4⟩, z0, z1, z2, z3, z4⟩ := pay_cells HR6.out
        obtain ⟨⟨q0, q1, q2, q3, q4⟩, y0, y1, y2, y3, y4⟩ := pay_cells HP6.out
        go_wp2_with fail
        clear p0 p1 p2 p3 p4 z0 z1 z2 z3 z4 q0 q1 q2 q3 q4 y0 y1 y2 y3 y4
        obtain ⟨⟨s0, s1, s2, s3, s4⟩, _⟩ := pay_cells HPF.out
        (try simp only [Exit.inBlock, Exit.then])
        refine bodyPost_ret (by simp [results, Try.results26, go_sem, s0, s1, s2, s3, s4]; try rfl) rfl ?_
        have hk' : n - y.toNat - 6 = k := by have := HN.out; omega
        rw [hk']
        exact ⟨HKF.out, .inr ⟨by omega, a6, c6, rfl, HYF.out, fun bb hb => by have := HGE.out bb hb; omega⟩⟩))

end Go.Proofs.Ytcfljnlfikkhaaa
