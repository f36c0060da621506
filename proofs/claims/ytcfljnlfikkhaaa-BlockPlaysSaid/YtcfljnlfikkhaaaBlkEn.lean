/- Add of the document's blocks: not open. -/
import Derived.Test.YtcfljnlfikkhaaaBlkEo
namespace Go.Proofs.Ytcfljnlfikkhaaa
open Go.RowKit Go.Deep

set_option maxRecDepth 100000 in
set_option maxHeartbeats 3200000 in
theorem radd_new (base b : Nat) (s : Bk) (t fl st : Int) (fa : Option Addr) (fn fc : Nat) (xs : List UInt8) (w : World) (hb : RkM base w b s) (hs : s.Ok) (hx : By w fa fn fc xs) (hn : fn ≤ 1000000) (hm : s.may t st = true) (hy : s.says t = true) (ho : s.opn = false) :
    Calls Try.prog 9 #[.pointer (some ⟨b, 0, none⟩), FrV t fl st fa fn fc] w (RdP base b s t fl st xs w) := by
  have hk0 : Keeps (fun _ => False) w (w.alloc (.cells #[.int .u8 t, .int .u8 fl, .int .u32 st, .slice fa fn fc] 33 (0, 0))) := (Keeps.refl _ w).alloc _
  have HRK := Lib.hid (hb.keep hk0 (fun _ h => False.elim h) (fun h => h))
  have HX0 := Lib.hid (hx.alloc (.cells #[.int .u8 t, .int .u8 fl, .int .u32 st, .slice fa fn fc] 33 (0, 0)))
  have HX := Lib.hid hx
  have HK0 := Lib.hid hk0
  have hbb : b < w.heap.size := Nat.lt_of_lt_of_le hb.1 hb.2.1
  obtain ⟨hbase, hsize, m, a0, n0, c0, hm3, hm4, hb3, hA, hA5⟩ := hb
  have HB0 := Lib.hid (hb3.alloc (.cells #[.int .u8 t, .int .u8 fl, .int .u32 st, .slice fa fn fc] 33 (0, 0)))
  have HF0 := Lib.hid (Blk.new w #[.int .u8 t, .int .u8 fl, .int .u32 st, .slice fa fn fc] 33)
  have HA2 := Lib.hid hA
  have HA5 := Lib.hid hA5
  have HM3 := Lib.hid hm3
  obtain ⟨⟨e0, e1, e2, e3, e4, e5⟩, y0, y1, y2, y3, y4, y5⟩ := six_cells HB0.out
  have f00 : (w.alloc (.cells #[.int .u8 t, .int .u8 fl, .int .u32 st, .slice fa fn fc] 33 (0, 0))).cell? ⟨w.heap.size, 0, none⟩ = some (.int .u8 t) := HF0.out.cell 0
  have f01 : (w.alloc (.cells #[.int .u8 t, .int .u8 fl, .int .u32 st, .slice fa fn fc] 33 (0, 0))).cell? ⟨w.heap.size, 1, none⟩ = some (.int .u8 fl) := HF0.out.cell 1
  have f02 : (w.alloc (.cells #[.int .u8 t, .int .u8 fl, .int .u32 st, .slice fa fn fc] 33 (0, 0))).cell? ⟨w.heap.size, 2, none⟩ = some (.int .u32 st) := HF0.out.cell 2
  have f03 : (w.alloc (.cells #[.int .u8 t, .int .u8 fl, .int .u32 st, .slice fa fn fc] 33 (0, 0))).cell? ⟨w.heap.size, 3, none⟩ = some (.slice fa fn fc) := HF0.out.cell 3
  clear hk0 hx hb3 hA hA5 hm3
  unfold FrV
  have HM := Lib.hid hm
  have HY := Lib.hid hy
  have HT := Lib.hid (may_types hm hy)
  have HO := Lib.hid ho
  have HOK := Lib.hid hs
  rw [ho] at e1
  have h9 : (t == 9) = false := by unfold Bk.may at hm; rw [if_neg (by rw [ho]; simp)] at hm; simpa using hm
  have h1 : (t != 1) = false := by unfold Bk.says at hy; rw [if_neg (by rw [ho]; simp)] at hy; simpa using hy
  clear hm hy hs
  go_enter Try.func9, Try.ntmps9
  go_wp2_with fail
  go_quiet (fail)
  go_wp2_with fail
  refine (refpay_any t fl st fa fn fc xs _ ⟨HX0.out.1, HX0.out.2.drewN _⟩ hn HT.out).mono ?_
  rintro e w2 ⟨a2, m2, c2, ys, rfl, hy2, hq2, hg2, hk2⟩
  have hk2' := (HK0.out.drewN nq).trans (below_no hk2)
  have kk2 : Keeps (fun _ => False) (w.alloc (.cells #[.int .u8 t, .int .u8 fl, .int .u32 st, .slice fa fn fc] 33 (0, 0))) w2 := ((Keeps.refl _ (w.alloc (.cells #[.int .u8 t, .int .u8 fl, .int .u32 st, .slice fa fn fc] 33 (0, 0)))).drewN nq).trans (below_no hk2)
  have HB2 := Lib.hid (kk2.blk HB0.out (fun h => h))
  have HF2 := Lib.hid (kk2.blk HF0.out (fun h => h))
  have HA22 := Lib.hid (HA2.out.keep hk2' (fun _ _ h => h))
  have HRK2 := Lib.hid (HRK.out.keep kk2 (fun _ h => False.elim h) (fun h => h))
  have HK2 := Lib.hid hk2'
  have HY2 := Lib.hid hy2
  have HS2 : Hid (w.heap.size < w2.heap.size) := by show _ < _; have h := HF2.out.lt; exact h
  have HYB : Hid (∀ b', a2.map (·.block) = some b' → w.heap.size ≤ b') := fun b' hb' => by
    have h := hg2 b' hb'
    change (World.alloc _ _).heap.size ≤ b' at h
    simp only [World.size_alloc] at h
    omega
  clear kk2 hk2 hk2' hy2 f00 f01 f02 f03 e0 e1 e2 e3 e4 e5 y0 y1 y2 y3 y4 y5 hg2 HB0 HF0 HX0 HRK
  unfold PyV
  by_cases hq : payQ t fl st xs = 0
  · have HQ := Lib.hid hq
    have HYS := Lib.hid (hq2 hq)
    have HML : Hid (m2 ≤ fn) := by
      show m2 ≤ fn
      have h1 := HY2.out.1
      have h2 := HX.out.1
      have h3 := payX_le t fl xs
      rw [HYS.out] at h1
      omega
    rw [hq]
    clear hq2 hq
    have hn0 : n0 ≤ 1000000 := by have h1 := HA2.out.1; have h2 := HOK.out.len; have h3 := HOK.out.m1; omega
    have k3 : Keeps (fun _ => False) w2 (w2.alloc (.cells #[.slice a2 m2 c2, .slice none 0 0, .int .u32 0, .int .u32 0, .int .u32 0] 49 (0, 0))) := (Keeps.refl _ w2).alloc _
    have HB3 := Lib.hid (k3.blk HB2.out (fun h => h))
    have HF3 := Lib.hid (k3.blk HF2.out (fun h => h))
    have HP3 := Lib.hid (Blk.new w2 #[.slice a2 m2 c2, .slice none 0 0, .int .u32 0, .int .u32 0, .int .u32 0] 49)
    have HA3 := Lib.hid (HA22.out.keep k3 (fun _ _ h => h))
    have HY3 := Lib.hid (HY2.out.keep k3 (fun _ _ h => h))
    have HK3 := Lib.hid (HK2.out.trans k3)
    have HRK3 := Lib.hid (HRK2.out.keep k3 (fun _ h => False.elim h) (fun h => h))
    clear k3
    obtain ⟨⟨e0, e1, e2, e3, e4, e5⟩, y0, y1, y2, y3, y4, y5⟩ := six_cells HB3.out
    rw [ho] at e1
    have p0 : (w2.alloc (.cells #[.slice a2 m2 c2, .slice none 0 0, .int .u32 0, .int .u32 0, .int .u32 0] 49 (0, 0))).cell? ⟨w2.heap.size, 0, none⟩ = some (.slice a2 m2 c2) := HP3.out.cell 0
    go_upto_region 11 with fail
    have HS3 : Hid ((w2.alloc (.cells #[.slice a2 m2 c2, .slice none 0 0, .int .u32 0, .int .u32 0, .int .u32 0] 49 (0, 0))).heap.size = w2.heap.size + 1) := by show _ = _; simp
    generalize w2.alloc (.cells #[.slice a2 m2 c2, .slice none 0 0, .int .u32 0, .int .u32 0, .int .u32 0] 49 (0, 0)) = w3 at *
    have hlen : (s.ys t fl xs).length = 0 + m2 := by
      have h1 := HY2.out.1
      have h3 := HA2.out.1
      unfold Bk.ys; rw [← HYS.out, if_neg (by rw [HO.out]; simp)]
      simp only [List.length_append, List.length_nil]
      omega
    have hys : s.ys t fl xs = [] ++ ys := by unfold Bk.ys; rw [← HYS.out, if_neg (by rw [HO.out]; simp)]
    have HLEN := Lib.hid hlen
    have HYS2 := Lib.hid hys
    clear hlen hys
    have hsum : IntKind.i64.wrap ((0 : Int) + (m2 : Int)) = ((0 + m2 : Nat) : Int) := by have := HML.out; rw [IntKind.wrap_i64]; omega
    have hsum2 : wrap64 ((0 : Int) + (m2 : Int)) = ((0 + m2 : Nat) : Int) := by have := HML.out; unfold wrap64; omega
    have hsum4 : wrap64 (m2 : Int) = (m2 : Int) := by have := HML.out; unfold wrap64; omega
    have hm0 := HOK.out.m0
    by_cases hmn : m < 0
    · have HMS : Hid (s.most = 0) := by show _ = _; rw [← HM3.out, if_pos hmn]
      by_cases hfl : s.most < ((0 + m2 : Nat) : Int)
      · have HR : Hid (s.done t fl st xs = false ∧ s.rule t fl st xs = 3 ∧ s.add t fl st xs = s) := by
          have hlt : s.most < ((s.ys t fl xs).length : Int) := by rw [HLEN.out]; exact hfl
          exact ⟨(add_not (takes_long hlt)).2, by unfold Bk.rule; rw [if_neg (by rw [HM.out]; simp), if_neg (by rw [HY.out]; simp), if_neg (by rw [HQ.out]; simp), if_pos hlt], (add_not (takes_long hlt)).1⟩
        have hfp : 0 < (m2 : Int) := by have := HMS.out; omega
        have hfd : decide (0 < (m2 : Int)) = true := decide_eq_true hfp
        have hfn : 0 < m2 := by omega
        go_quiet (fail)
        go_wp2_with fail
        go_returns
        exact ⟨by rw [HR.out.1, HR.out.2.1]; rfl, by rw [HR.out.2.2]; exact HRK3.out.keep ((Keeps.refl _ w3).drewN _) (fun _ h => False.elim h) (fun h => h), (HK3.out.drewN _).to⟩
      · have hfp : (m2 : Int) ≤ 0 := by have := HMS.out; omega
        have hfd : decide (0 < (m2 : Int)) = false := decide_eq_false (by omega)
        have hfn : ¬ 0 < m2 := by omega
        have htk : s.takes t fl st xs = true := takes_yes HM.out HY.out HQ.out (by rw [HLEN.out]; exact hfl)
        have HADD : Hid (s.add t fl st xs = s.next t fl st xs) := by show _ = _; unfold Bk.add; rw [if_pos htk]
        have HDN : Hid (s.done t fl st xs = lastB fl) := by show _ = _; unfold Bk.done; rw [htk]; rfl
        have HRL : Hid (s.rule t fl st xs = 0) := by show _ = _; unfold Bk.rule; rw [if_neg (by rw [HM.out]; simp), if_neg (by rw [HY.out]; simp), if_neg (by rw [HQ.out]; simp), if_neg (by rw [HLEN.out]; exact hfl)]
        clear htk hfl
        go_upto_region 14 with (go_quiet (fail))
        refine wp_named ?_
        intro w4 hw4
        have k4 : Keeps (fun _ => False) w3 w4 := by rw [← hw4]; exact (Keeps.refl _ w3).drewN _
        have HB4 := Lib.hid (k4.blk HB3.out (fun h => h))
        have HF4 := Lib.hid (k4.blk HF3.out (fun h => h))
        have HP4 := Lib.hid (k4.blk HP3.out (fun h => h))
        have HA4 := Lib.hid (HA3.out.keep k4 (fun _ _ h => h))
        have HY4 := Lib.hid (HY3.out.keep k4 (fun _ _ h => h))
        have HK4 := Lib.hid (HK3.out.trans k4)
        have HS4 : Hid (w2.heap.size + 1 ≤ w4.heap.size) := by show _ ≤ _; have := k4.size; have := HS3.out; omega
        have HPN : Hid (w2.heap.size ≠ b) := by have := HS2.out; show _ ≠ _; omega
        have HFN : Hid (w.heap.size ≠ b) := by show _ ≠ _; omega
        clear hw4 k4 e0 e1 e2 e3 e4 e5 y0 y1 y2 y3 y4 y5 p0 HB3 HF3 HP3 HA3 HY3 HK3 HRK3
        have kd4 : Keeps (fun _ => False) w4 w4.drew := (Keeps.refl _ w4).drew
        have hbd := kd4.blk HB4.out (fun h => h)
        obtain ⟨⟨e0, e1, e2, e3, e4, e5⟩, y0, y1, y2, y3, y4, y5⟩ := six_cells HB4.out
        have f1 : w4.drew.cell? ⟨w.heap.size, 1, none⟩ = some (.int .u8 fl) := (kd4.blk HF4.out (fun h => h)).cell 1
        have f2 : w4.drew.cell? ⟨w.heap.size, 2, none⟩ = some (.int .u32 st) := (kd4.blk HF4.out (fun h => h)).cell 2
        refine wp_region_held (S := fun w' : World => w'.cell? ⟨w.heap.size, 1, none⟩ = some (.int .u8 fl) ∧ w'.cell? ⟨w.heap.size, 2, none⟩ = some (.int .u32 st)) (by kernel_rfl) ?_
        change wpAnyH _ _ _ _ _ _ _ _ (World.drew _)
        have hS : (fun w' : World => w'.cell? ⟨w.heap.size, 1, none⟩ = some (.int .u8 fl) ∧ w'.cell? ⟨w.heap.size, 2, none⟩ = some (.int .u32 st)) w4.drew := ⟨f1, f2⟩
        refine wpAnyH_take (i := 0) (v := ?_) rfl (by kernel_rfl) (by kernel_rfl) (by kernel_rfl) (fun _ _ _ h => h) (Or.inl ⟨by kernel_rfl, ?_⟩) hS ?_
        rotate_left
        · intro wz ⟨_, _⟩; go_simp; try with_reducible rfl
        refine wpAnyH_take (i := 1) (v := ?_) rfl (by kernel_rfl) (by kernel_rfl) (by kernel_rfl) (fun _ _ _ h => h) (Or.inl ⟨by kernel_rfl, ?_⟩) hS ?_
        rotate_left
        · intro wz ⟨_, _⟩; go_simp; try with_reducible rfl
        refine wpAnyH_take (i := 2) (v := ?_) rfl (by kernel_rfl) (by kernel_rfl) (by kernel_rfl) (fun _ _ _ h => h) (Or.inl ⟨by kernel_rfl, ?_⟩) hS ?_
        rotate_left
        · intro wz ⟨_, _⟩; go_simp; try with_reducible rfl
        refine wpAnyH_take (i := 3) (v := ?_) rfl (by kernel_rfl) (by kernel_rfl) (by kernel_rfl) (fun _ _ _ h => h) (Or.inl ⟨by kernel_rfl, ?_⟩) hS ?_
        rotate_left
        · intro wz ⟨_, _⟩; go_simp; try with_reducible rfl
        refine wpAnyH_take (i := 4) (v := ?_) rfl (by kernel_rfl) (by kernel_rfl) (by kernel_rfl) (fun _ _ _ h => h) (Or.inl ⟨by kernel_rfl, ?_⟩) hS ?_
        rotate_left
        · intro wz ⟨_, _⟩; go_simp; try with_reducible rfl
        refine wpAnyH_take (i := 5) (v := ?_) rfl (by kernel_rfl) (by kernel_rfl) (by kernel_rfl) (fun _ _ _ h => h) (Or.inl ⟨by kernel_rfl, ?_⟩) hS ?_
        rotate_left
        · intro wz ⟨_, _⟩; go_simp; try with_reducible rfl
        refine wpAnyH_take (i := 6) (v := ?_) rfl (by kernel_rfl) (by kernel_rfl) (by kernel_rfl) (fun _ _ _ h => h) (Or.inl ⟨by kernel_rfl, ?_⟩) hS ?_
        rotate_left
        · intro wz ⟨_, _⟩; go_simp; try with_reducible rfl
        refine wpAnyH_take (i := 7) (v := ?_) rfl (by kernel_rfl) (by kernel_rfl) (by kernel_rfl) (fun _ _ _ h => h) (Or.inl ⟨by kernel_rfl, ?_⟩) hS ?_
        rotate_left
        · intro wz ⟨_, _⟩; go_simp; try with_reducible rfl
        refine wpAnyH_take (i := 8) (v := ?_) rfl (by kernel_rfl) (by kernel_rfl) (by kernel_rfl) (fun _ _ _ h => h) (Or.inl ⟨by kernel_rfl, ?_⟩) hS ?_
        rotate_left
        · intro wz ⟨_, _⟩; go_simp; try with_reducible rfl
        refine wpAnyH_take (i := 9) (v := ?_) rfl (by kernel_rfl) (by kernel_rfl) (by kernel_rfl) (fun _ _ _ h => h) (Or.inl ⟨by kernel_rfl, ?_⟩) hS ?_
        rotate_left
        · intro wz ⟨_, _⟩; go_simp; try with_reducible rfl
        refine wpAnyH_take (i := 10) (v := ?_) rfl (by kernel_rfl) (by kernel_rfl) (by kernel_rfl) (fun _ _ _ h => h) (Or.inl ⟨by kernel_rfl, ?_⟩) hS ?_
        rotate_left
        · intro wz ⟨_, _⟩; go_simp; try with_reducible rfl
        have k5 : Keeps (fun k => k = b) w4.drew (w4.drew.setCell ⟨b, 2, none⟩ (.int .u32 st)) := (Keeps.refl _ _).put 2 _
        have hb5 : Blk (w4.drew.setCell ⟨b, 2, none⟩ (.int .u32 st)) b #[.int .i64 m, .bool s.opn, .int .u32 st, .bool s.fin, .slice a0 n0 c0, .bool s.whl] 31 := (hbd.set 2 _).as rfl
        have hS5 : (fun w' : World => w'.cell? ⟨w.heap.size, 1, none⟩ = some (.int .u8 fl) ∧ w'.cell? ⟨w.heap.size, 2, none⟩ = some (.int .u32 st)) (w4.drew.setCell ⟨b, 2, none⟩ (.int .u32 st)) := ⟨(k5.blk (kd4.blk HF4.out (fun h => h)) HFN.out).cell 1, (k5.blk (kd4.blk HF4.out (fun h => h)) HFN.out).cell 2⟩
        refine held_skip (i := 11) (w4.drew.setCell ⟨b, 2, none⟩ (.int .u32 st)) rfl (by kernel_rfl) (by kernel_rfl) ?_ hS5 ?_
        · go_simp; try with_reducible rfl
        clear hS f1 f2
        have hS := hS5
        refine wpAnyH_take (i := 12) (v := ?_) rfl (by kernel_rfl) (by kernel_rfl) (by kernel_rfl) (fun _ _ _ h => h) (Or.inl ⟨by kernel_rfl, ?_⟩) hS ?_
        rotate_left
        · intro wz ⟨_, _⟩; go_simp; try with_reducible rfl
        refine wpAnyH_take (i := 13) (v := ?_) rfl (by kernel_rfl) (by kernel_rfl) (by kernel_rfl) (fun _ _ _ h => h) (Or.inl ⟨by kernel_rfl, ?_⟩) hS ?_
        rotate_left
        · intro wz ⟨_, _⟩; go_simp; try with_reducible rfl
        have k6 : Keeps (fun k => k = b) w4.drew ((w4.drew.setCell ⟨b, 2, none⟩ (.int .u32 st)).setCell ⟨b, 3, none⟩ (.bool (bits .and .u8 fl 1 != 0))) := k5.put 3 _
        have hb6 : Blk ((w4.drew.setCell ⟨b, 2, none⟩ (.int .u32 st)).setCell ⟨b, 3, none⟩ (.bool (bits .and .u8 fl 1 != 0))) b #[.int .i64 m, .bool s.opn, .int .u32 st, .bool (bits .and .u8 fl 1 != 0), .slice a0 n0 c0, .bool s.whl] 31 := (hb5.set 3 _).as rfl
        have hS6 : (fun w' : World => w'.cell? ⟨w.heap.size, 1, none⟩ = some (.int .u8 fl) ∧ w'.cell? ⟨w.heap.size, 2, none⟩ = some (.int .u32 st)) ((w4.drew.setCell ⟨b, 2, none⟩ (.int .u32 st)).setCell ⟨b, 3, none⟩ (.bool (bits .and .u8 fl 1 != 0))) := ⟨(k6.blk (kd4.blk HF4.out (fun h => h)) HFN.out).cell 1, (k6.blk (kd4.blk HF4.out (fun h => h)) HFN.out).cell 2⟩
        refine held_skip (i := 14) ((w4.drew.setCell ⟨b, 2, none⟩ (.int .u32 st)).setCell ⟨b, 3, none⟩ (.bool (bits .and .u8 fl 1 != 0))) rfl (by kernel_rfl) (by kernel_rfl) ?_ hS6 ?_
        · go_simp; try with_reducible rfl
        clear hS hS5
        have hS := hS6
        refine wpAnyH_take (i := 15) (v := ?_) rfl (by kernel_rfl) (by kernel_rfl) (by kernel_rfl) (fun _ _ _ h => h) (Or.inl ⟨by kernel_rfl, ?_⟩) hS ?_
        rotate_left
        · intro wz ⟨_, _⟩; go_simp; try with_reducible rfl
        refine wpAnyH_take (i := 16) (v := ?_) rfl (by kernel_rfl) (by kernel_rfl) (by kernel_rfl) (fun _ _ _ h => h) (Or.inl ⟨by kernel_rfl, ?_⟩) hS ?_
        rotate_left
        · intro wz ⟨_, _⟩; go_simp; try with_reducible rfl
        have k7 : Keeps (fun k => k = b) w4.drew (((w4.drew.setCell ⟨b, 2, none⟩ (.int .u32 st)).setCell ⟨b, 3, none⟩ (.bool (bits .and .u8 fl 1 != 0))).setCell ⟨b, 5, none⟩ (.bool false)) := k6.put 5 _
        have hb7 : Blk (((w4.drew.setCell ⟨b, 2, none⟩ (.int .u32 st)).setCell ⟨b, 3, none⟩ (.bool (bits .and .u8 fl 1 != 0))).setCell ⟨b, 5, none⟩ (.bool false)) b #[.int .i64 m, .bool s.opn, .int .u32 st, .bool (bits .and .u8 fl 1 != 0), .slice a0 n0 c0, .bool false] 31 := (hb6.set 5 _).as rfl
        have hS7 : (fun w' : World => w'.cell? ⟨w.heap.size, 1, none⟩ = some (.int .u8 fl) ∧ w'.cell? ⟨w.heap.size, 2, none⟩ = some (.int .u32 st)) (((w4.drew.setCell ⟨b, 2, none⟩ (.int .u32 st)).setCell ⟨b, 3, none⟩ (.bool (bits .and .u8 fl 1 != 0))).setCell ⟨b, 5, none⟩ (.bool false)) := ⟨(k7.blk (kd4.blk HF4.out (fun h => h)) HFN.out).cell 1, (k7.blk (kd4.blk HF4.out (fun h => h)) HFN.out).cell 2⟩
        refine held_skip (i := 17) (((w4.drew.setCell ⟨b, 2, none⟩ (.int .u32 st)).setCell ⟨b, 3, none⟩ (.bool (bits .and .u8 fl 1 != 0))).setCell ⟨b, 5, none⟩ (.bool false)) rfl (by kernel_rfl) (by kernel_rfl) ?_ hS7 ?_
        · go_simp; try with_reducible rfl
        refine wpAnyH_done (by kernel_rfl) ?_ _
        clear hS hS6 hS7 e0 e1 e2 e3 e4 e5 y0 y1 y2 y3 y4 y5
        have K47 : Hid (Keeps (fun k => k = b) w4 (((w4.drew.setCell ⟨b, 2, none⟩ (.int .u32 st)).setCell ⟨b, 3, none⟩ (.bool (bits .and .u8 fl 1 != 0))).setCell ⟨b, 5, none⟩ (.bool false))) := kd4.to.trans k7
        have HB7 := Lib.hid hb7
        clear hbd hb5 hb6 hb7 k5 k6 k7 kd4
        generalize (((w4.drew.setCell ⟨b, 2, none⟩ (.int .u32 st)).setCell ⟨b, 3, none⟩ (.bool (bits .and .u8 fl 1 != 0))).setCell ⟨b, 5, none⟩ (.bool false)) = w7 at *
        refine then_named fun b9 hb9 => ?_
        subst hb9
        go_upto_region 15 with fail
        refine wp_named ?_
        intro w5 hw5
        subst hw5
        have HF7 := Lib.hid (K47.out.blk HF4.out HFN.out)
        have HP7 := Lib.hid (K47.out.blk HP4.out HPN.out)
        have HY7 := Lib.hid (HY4.out.keep K47.out (fun b' hb' e => by have h := HYB.out b' hb'; have h2 : b' = b := e; omega))
        have HK7 := Lib.hid (HK4.out.to.trans K47.out)
        have HS7 : Hid (w2.heap.size + 1 ≤ w7.heap.size) := by show _ ≤ _; have := K47.out.size; have := HS4.out; omega
        have kd7 : Keeps (fun _ => False) w7 w7.drew := (Keeps.refl _ w7).drew
        have p0 : w7.drew.cell? ⟨w2.heap.size, 0, none⟩ = some (.slice a2 m2 c2) := (kd7.blk HP7.out (fun h => h)).cell 0
        have hz1 : (0 : Int) ≤ (0 : Int) := by omega
        refine wp_region_held (S := fun w' : World => w'.cell? ⟨w2.heap.size, 0, none⟩ = some (.slice a2 m2 c2)) (by kernel_rfl) ?_
        change wpAnyH _ _ _ _ _ _ _ _ (World.drew _)
        have hS : (fun w' : World => w'.cell? ⟨w2.heap.size, 0, none⟩ = some (.slice a2 m2 c2)) w7.drew := p0
        refine wpAnyH_take (i := 0) (v := ?_) rfl (by kernel_rfl) (by kernel_rfl) (by kernel_rfl) (fun _ _ _ h => h) (Or.inl ⟨by kernel_rfl, ?_⟩) hS ?_
        rotate_left
        · intro wz _; go_simp; try with_reducible rfl
        refine wpAnyH_take (i := 1) (v := ?_) rfl (by kernel_rfl) (by kernel_rfl) (by kernel_rfl) (fun _ _ _ h => h) (Or.inl ⟨by kernel_rfl, ?_⟩) hS ?_
        rotate_left
        · intro wz _; go_simp; try with_reducible rfl
        refine wpAnyH_take (i := 2) (v := ?_) rfl (by kernel_rfl) (by kernel_rfl) (by kernel_rfl) (fun _ _ _ h => h) (Or.inl ⟨by kernel_rfl, ?_⟩) hS ?_
        rotate_left
        · intro wz _; go_simp; try with_reducible rfl
        refine wpAnyH_take (i := 3) (v := ?_) rfl (by kernel_rfl) (by kernel_rfl) (by kernel_rfl) (fun _ _ _ h => h) (Or.inl ⟨by kernel_rfl, ?_⟩) hS ?_
        rotate_left
        · intro wz _; go_simp; try with_reducible rfl
        refine wpAnyH_take (i := 4) (v := ?_) rfl (by kernel_rfl) (by kernel_rfl) (by kernel_rfl) (fun _ _ _ h => h) (Or.inl ⟨by kernel_rfl, ?_⟩) hS ?_
        rotate_left
        · intro wz _; go_simp; try with_reducible rfl
        refine wpAnyH_take (i := 5) (v := ?_) rfl (by kernel_rfl) (by kernel_rfl) (by kernel_rfl) (fun _ _ _ h => h) (Or.inl ⟨by kernel_rfl, ?_⟩) hS ?_
        rotate_left
        · intro wz _; go_simp; try with_reducible rfl
        refine wpAnyH_take (i := 6) (v := ?_) rfl (by kernel_rfl) (by kernel_rfl) (by kernel_rfl) (fun _ _ _ h => h) (Or.inl ⟨by kernel_rfl, ?_⟩) hS ?_
        rotate_left
        · intro wz _; go_simp; try with_reducible rfl
        refine wpAnyH_take (i := 7) (v := ?_) rfl (by kernel_rfl) (by kernel_rfl) (by kernel_rfl) (fun _ _ _ h => h) (Or.inl ⟨by kernel_rfl, ?_⟩) hS ?_
        rotate_left
        · intro wz _; go_simp; try with_reducible rfl
        refine wpAnyH_take (i := 8) (v := ?_) rfl (by kernel_rfl) (by kernel_rfl) (by kernel_rfl) (fun _ _ _ h => h) (Or.inl ⟨by kernel_rfl, ?_⟩) hS ?_
        rotate_left
        · intro wz _; go_simp; try with_reducible rfl
        clear hS p0
        refine held_full (i := 9) rfl (by kernel_rfl) (by kernel_rfl) (.tmp 103) (.tmp 105) rfl none 0 [] (by kernel_rfl) (By.nil _) a2 m2 c2 ys (by kernel_rfl) (HY7.out.keep kd7 (fun _ _ h => h)) (by have := HML.out; omega) ?_
        intro a8 c8 w8 hx8 hk8 hg8
        have K78 : Keeps (fun _ => False) w7 w8 := kd7.trans hk8
        have HB8 := Lib.hid (K78.blk HB7.out (fun h => h))
        have HP8 := Lib.hid (K78.blk HP7.out (fun h => h))
        have HF8 := Lib.hid (K78.blk HF7.out (fun h => h))
        have hS : (fun w' : World => w'.cell? ⟨w2.heap.size, 0, none⟩ = some (.slice a2 m2 c2)) w8 := HP8.out.cell 0
        refine ⟨hS, ?_⟩
        refine wpAnyH_take (i := 10) (v := ?_) rfl (by kernel_rfl) (by kernel_rfl) (by kernel_rfl) (fun _ _ _ h => h) (Or.inl ⟨by kernel_rfl, ?_⟩) hS ?_
        rotate_left
        · intro wz _; go_simp; try with_reducible rfl
        refine wpAnyH_take (i := 11) (v := ?_) rfl (by kernel_rfl) (by kernel_rfl) (by kernel_rfl) (fun _ _ _ h => h) (Or.inl ⟨by kernel_rfl, ?_⟩) hS ?_
        rotate_left
        · intro wz _; go_simp; try with_reducible rfl
        obtain ⟨⟨e0, e1, e2, e3, e4, e5⟩, y0, y1, y2, y3, y4, y5⟩ := six_cells HB8.out
        have k9 : Keeps (fun k => k = b) w8 (w8.setCell ⟨b, 4, none⟩ (.slice a8 (0 + m2) c8)) := (Keeps.refl _ w8).put 4 _
        have HG8 : Hid (∀ b', a8.map (·.block) = some b' → base ≤ b' ∧ b' < w8.heap.size) := fun b' hb' => by
          have hsz := K78.size
          have hw7 := HK7.out.size
          rcases hg8 b' hb' with h | ⟨h3, h4⟩
          · cases h
          · exact ⟨by have h5 : w7.heap.size ≤ b' := h3; omega, h4⟩
        refine held_skip (i := 12) (w8.setCell ⟨b, 4, none⟩ (.slice a8 (0 + m2) c8)) rfl (by kernel_rfl) (by kernel_rfl) ?_ ((k9.blk HP8.out HPN.out).cell 0) ?_
        · go_simp; try with_reducible rfl
        refine wpAnyH_done (by kernel_rfl) ?_ _
        clear hS e0 e1 e2 e3 e4 e5 y0 y1 y2 y3 y4 y5
        have HB9 : Hid (Blk (w8.setCell ⟨b, 4, none⟩ (.slice a8 (0 + m2) c8)) b #[.int .i64 m, .bool s.opn, .int .u32 st, .bool (bits .and .u8 fl 1 != 0), .slice a8 (0 + m2) c8, .bool false] 31) := Lib.hid ((HB8.out.set 4 _).as rfl)
        have HF9 := Lib.hid (k9.blk HF8.out HFN.out)
        have HX9 := Lib.hid (hx8.keep k9 (fun b' hb' e => by have := (HG8.out b' hb').1; omega))
        have HK9 := Lib.hid ((HK7.out.trans K78.to).trans k9)
        have HS9 : Hid (∀ b', a8.map (·.block) = some b' → base ≤ b' ∧ b' < (w8.setCell ⟨b, 4, none⟩ (.slice a8 (0 + m2) c8)).heap.size) := fun b' hb' => by have := HG8.out b' hb'; simp; omega
        clear k9 kd7 hk8 hx8 hg8
        generalize w8.setCell ⟨b, 4, none⟩ (.slice a8 (0 + m2) c8) = w9 at *
        refine then_named fun b9 hb9 => ?_
        subst hb9
        obtain ⟨⟨e0, e1, e2, e3, e4, e5⟩, y0, y1, y2, y3, y4, y5⟩ := six_cells HB9.out
        have f91 : w9.cell? ⟨w.heap.size, 1, none⟩ = some (.int .u8 fl) := HF9.out.cell 1
        go_wp2_with fail
        go_returns
        exact rfin HADD.out HDN.out HRL.out hbase HM3.out hm4 (by rw [HYS2.out]; exact HX9.out) HS9.out HK9.out (Nat.le_trans hsize HK9.out.size) (by have h := (((HB9.out.set 5 (.bool (bits .and .u8 fl 4 != 0))).set 1 (.bool (!(bits .and .u8 fl 4 != 0))))); exact h.as (by show #[_, _, _, _, _, _] = #[_, _, Value.int .u32 (if s.opn then s.st else st), Value.bool (if s.opn then s.fin else finB fl), _, _]; rw [if_neg (by rw [HO.out]; simp), if_neg (by rw [HO.out]; simp)]; try rfl)) (((Keeps.refl _ w9).put 5 _).put 1 _)

    · have HMS : Hid (s.most = m) := by show _ = _; rw [← HM3.out, if_neg hmn]
      by_cases hfl : s.most < ((0 + m2 : Nat) : Int)
      · have HR : Hid (s.done t fl st xs = false ∧ s.rule t fl st xs = 3 ∧ s.add t fl st xs = s) := by
          have hlt : s.most < ((s.ys t fl xs).length : Int) := by rw [HLEN.out]; exact hfl
          exact ⟨(add_not (takes_long hlt)).2, by unfold Bk.rule; rw [if_neg (by rw [HM.out]; simp), if_neg (by rw [HY.out]; simp), if_neg (by rw [HQ.out]; simp), if_pos hlt], (add_not (takes_long hlt)).1⟩
        have hfp : m < (m2 : Int) := by have := HMS.out; omega
        have hfd : decide (m < (m2 : Int)) = true := decide_eq_true hfp
        go_quiet (fail)
        go_wp2_with fail
        go_returns
        exact ⟨by rw [HR.out.1, HR.out.2.1]; rfl, by rw [HR.out.2.2]; exact HRK3.out.keep ((Keeps.refl _ w3).drewN _) (fun _ h => False.elim h) (fun h => h), (HK3.out.drewN _).to⟩
      · have hfp : (m2 : Int) ≤ m := by have := HMS.out; omega
        have hfd : decide (m < (m2 : Int)) = false := decide_eq_false (by omega)
        have htk : s.takes t fl st xs = true := takes_yes HM.out HY.out HQ.out (by rw [HLEN.out]; exact hfl)
        have HADD : Hid (s.add t fl st xs = s.next t fl st xs) := by show _ = _; unfold Bk.add; rw [if_pos htk]
        have HDN : Hid (s.done t fl st xs = lastB fl) := by show _ = _; unfold Bk.done; rw [htk]; rfl
        have HRL : Hid (s.rule t fl st xs = 0) := by show _ = _; unfold Bk.rule; rw [if_neg (by rw [HM.out]; simp), if_neg (by rw [HY.out]; simp), if_neg (by rw [HQ.out]; simp), if_neg (by rw [HLEN.out]; exact hfl)]
        clear htk hfl
        go_upto_region 14 with (go_quiet (fail))
        refine wp_named ?_
        intro w4 hw4
        have k4 : Keeps (fun _ => False) w3 w4 := by rw [← hw4]; exact (Keeps.refl _ w3).drewN _
        have HB4 := Lib.hid (k4.blk HB3.out (fun h => h))
        have HF4 := Lib.hid (k4.blk HF3.out (fun h => h))
        have HP4 := Lib.hid (k4.blk HP3.out (fun h => h))
        have HA4 := Lib.hid (HA3.out.keep k4 (fun _ _ h => h))
        have HY4 := Lib.hid (HY3.out.keep k4 (fun _ _ h => h))
        have HK4 := Lib.hid (HK3.out.trans k4)
        have HS4 : Hid (w2.heap.size + 1 ≤ w4.heap.size) := by show _ ≤ _; have := k4.size; have := HS3.out; omega
        have HPN : Hid (w2.heap.size ≠ b) := by have := HS2.out; show _ ≠ _; omega
        have HFN : Hid (w.heap.size ≠ b) := by show _ ≠ _; omega
        clear hw4 k4 e0 e1 e2 e3 e4 e5 y0 y1 y2 y3 y4 y5 p0 HB3 HF3 HP3 HA3 HY3 HK3 HRK3
        have kd4 : Keeps (fun _ => False) w4 w4.drew := (Keeps.refl _ w4).drew
        have hbd := kd4.blk HB4.out (fun h => h)
        obtain ⟨⟨e0, e1, e2, e3, e4, e5⟩, y0, y1, y2, y3, y4, y5⟩ := six_cells HB4.out
        have f1 : w4.drew.cell? ⟨w.heap.size, 1, none⟩ = some (.int .u8 fl) := (kd4.blk HF4.out (fun h => h)).cell 1
        have f2 : w4.drew.cell? ⟨w.heap.size, 2, none⟩ = some (.int .u32 st) := (kd4.blk HF4.out (fun h => h)).cell 2
        refine wp_region_held (S := fun w' : World => w'.cell? ⟨w.heap.size, 1, none⟩ = some (.int .u8 fl) ∧ w'.cell? ⟨w.heap.size, 2, none⟩ = some (.int .u32 st)) (by kernel_rfl) ?_
        change wpAnyH _ _ _ _ _ _ _ _ (World.drew _)
        have hS : (fun w' : World => w'.cell? ⟨w.heap.size, 1, none⟩ = some (.int .u8 fl) ∧ w'.cell? ⟨w.heap.size, 2, none⟩ = some (.int .u32 st)) w4.drew := ⟨f1, f2⟩
        refine wpAnyH_take (i := 0) (v := ?_) rfl (by kernel_rfl) (by kernel_rfl) (by kernel_rfl) (fun _ _ _ h => h) (Or.inl ⟨by kernel_rfl, ?_⟩) hS ?_
        rotate_left
        · intro wz ⟨_, _⟩; go_simp; try with_reducible rfl
        refine wpAnyH_take (i := 1) (v := ?_) rfl (by kernel_rfl) (by kernel_rfl) (by kernel_rfl) (fun _ _ _ h => h) (Or.inl ⟨by kernel_rfl, ?_⟩) hS ?_
        rotate_left
        · intro wz ⟨_, _⟩; go_simp; try with_reducible rfl
        refine wpAnyH_take (i := 2) (v := ?_) rfl (by kernel_rfl) (by kernel_rfl) (by kernel_rfl) (fun _ _ _ h => h) (Or.inl ⟨by kernel_rfl, ?_⟩) hS ?_
        rotate_left
        · intro wz ⟨_, _⟩; go_simp; try with_reducible rfl
        refine wpAnyH_take (i := 3) (v := ?_) rfl (by kernel_rfl) (by kernel_rfl) (by kernel_rfl) (fun _ _ _ h => h) (Or.inl ⟨by kernel_rfl, ?_⟩) hS ?_
        rotate_left
        · intro wz ⟨_, _⟩; go_simp; try with_reducible rfl
        refine wpAnyH_take (i := 4) (v := ?_) rfl (by kernel_rfl) (by kernel_rfl) (by kernel_rfl) (fun _ _ _ h => h) (Or.inl ⟨by kernel_rfl, ?_⟩) hS ?_
        rotate_left
        · intro wz ⟨_, _⟩; go_simp; try with_reducible rfl
        refine wpAnyH_take (i := 5) (v := ?_) rfl (by kernel_rfl) (by kernel_rfl) (by kernel_rfl) (fun _ _ _ h => h) (Or.inl ⟨by kernel_rfl, ?_⟩) hS ?_
        rotate_left
        · intro wz ⟨_, _⟩; go_simp; try with_reducible rfl
        refine wpAnyH_take (i := 6) (v := ?_) rfl (by kernel_rfl) (by kernel_rfl) (by kernel_rfl) (fun _ _ _ h => h) (Or.inl ⟨by kernel_rfl, ?_⟩) hS ?_
        rotate_left
        · intro wz ⟨_, _⟩; go_simp; try with_reducible rfl
        refine wpAnyH_take (i := 7) (v := ?_) rfl (by kernel_rfl) (by kernel_rfl) (by kernel_rfl) (fun _ _ _ h => h) (Or.inl ⟨by kernel_rfl, ?_⟩) hS ?_
        rotate_left
        · intro wz ⟨_, _⟩; go_simp; try with_reducible rfl
        refine wpAnyH_take (i := 8) (v := ?_) rfl (by kernel_rfl) (by kernel_rfl) (by kernel_rfl) (fun _ _ _ h => h) (Or.inl ⟨by kernel_rfl, ?_⟩) hS ?_
        rotate_left
        · intro wz ⟨_, _⟩; go_simp; try with_reducible rfl
        refine wpAnyH_take (i := 9) (v := ?_) rfl (by kernel_rfl) (by kernel_rfl) (by kernel_rfl) (fun _ _ _ h => h) (Or.inl ⟨by kernel_rfl, ?_⟩) hS ?_
        rotate_left
        · intro wz ⟨_, _⟩; go_simp; try with_reducible rfl
        refine wpAnyH_take (i := 10) (v := ?_) rfl (by kernel_rfl) (by kernel_rfl) (by kernel_rfl) (fun _ _ _ h => h) (Or.inl ⟨by kernel_rfl, ?_⟩) hS ?_
        rotate_left
        · intro wz ⟨_, _⟩; go_simp; try with_reducible rfl
        have k5 : Keeps (fun k => k = b) w4.drew (w4.drew.setCell ⟨b, 2, none⟩ (.int .u32 st)) := (Keeps.refl _ _).put 2 _
        have hb5 : Blk (w4.drew.setCell ⟨b, 2, none⟩ (.int .u32 st)) b #[.int .i64 m, .bool s.opn, .int .u32 st, .bool s.fin, .slice a0 n0 c0, .bool s.whl] 31 := (hbd.set 2 _).as rfl
        have hS5 : (fun w' : World => w'.cell? ⟨w.heap.size, 1, none⟩ = some (.int .u8 fl) ∧ w'.cell? ⟨w.heap.size, 2, none⟩ = some (.int .u32 st)) (w4.drew.setCell ⟨b, 2, none⟩ (.int .u32 st)) := ⟨(k5.blk (kd4.blk HF4.out (fun h => h)) HFN.out).cell 1, (k5.blk (kd4.blk HF4.out (fun h => h)) HFN.out).cell 2⟩
        refine held_skip (i := 11) (w4.drew.setCell ⟨b, 2, none⟩ (.int .u32 st)) rfl (by kernel_rfl) (by kernel_rfl) ?_ hS5 ?_
        · go_simp; try with_reducible rfl
        clear hS f1 f2
        have hS := hS5
        refine wpAnyH_take (i := 12) (v := ?_) rfl (by kernel_rfl) (by kernel_rfl) (by kernel_rfl) (fun _ _ _ h => h) (Or.inl ⟨by kernel_rfl, ?_⟩) hS ?_
        rotate_left
        · intro wz ⟨_, _⟩; go_simp; try with_reducible rfl
        refine wpAnyH_take (i := 13) (v := ?_) rfl (by kernel_rfl) (by kernel_rfl) (by kernel_rfl) (fun _ _ _ h => h) (Or.inl ⟨by kernel_rfl, ?_⟩) hS ?_
        rotate_left
        · intro wz ⟨_, _⟩; go_simp; try with_reducible rfl
        have k6 : Keeps (fun k => k = b) w4.drew ((w4.drew.setCell ⟨b, 2, none⟩ (.int .u32 st)).setCell ⟨b, 3, none⟩ (.bool (bits .and .u8 fl 1 != 0))) := k5.put 3 _
        have hb6 : Blk ((w4.drew.setCell ⟨b, 2, none⟩ (.int .u32 st)).setCell ⟨b, 3, none⟩ (.bool (bits .and .u8 fl 1 != 0))) b #[.int .i64 m, .bool s.opn, .int .u32 st, .bool (bits .and .u8 fl 1 != 0), .slice a0 n0 c0, .bool s.whl] 31 := (hb5.set 3 _).as rfl
        have hS6 : (fun w' : World => w'.cell? ⟨w.heap.size, 1, none⟩ = some (.int .u8 fl) ∧ w'.cell? ⟨w.heap.size, 2, none⟩ = some (.int .u32 st)) ((w4.drew.setCell ⟨b, 2, none⟩ (.int .u32 st)).setCell ⟨b, 3, none⟩ (.bool (bits .and .u8 fl 1 != 0))) := ⟨(k6.blk (kd4.blk HF4.out (fun h => h)) HFN.out).cell 1, (k6.blk (kd4.blk HF4.out (fun h => h)) HFN.out).cell 2⟩
        refine held_skip (i := 14) ((w4.drew.setCell ⟨b, 2, none⟩ (.int .u32 st)).setCell ⟨b, 3, none⟩ (.bool (bits .and .u8 fl 1 != 0))) rfl (by kernel_rfl) (by kernel_rfl) ?_ hS6 ?_
        · go_simp; try with_reducible rfl
        clear hS hS5
        have hS := hS6
        refine wpAnyH_take (i := 15) (v := ?_) rfl (by kernel_rfl) (by kernel_rfl) (by kernel_rfl) (fun _ _ _ h => h) (Or.inl ⟨by kernel_rfl, ?_⟩) hS ?_
        rotate_left
        · intro wz ⟨_, _⟩; go_simp; try with_reducible rfl
        refine wpAnyH_take (i := 16) (v := ?_) rfl (by kernel_rfl) (by kernel_rfl) (by kernel_rfl) (fun _ _ _ h => h) (Or.inl ⟨by kernel_rfl, ?_⟩) hS ?_
        rotate_left
        · intro wz ⟨_, _⟩; go_simp; try with_reducible rfl
        have k7 : Keeps (fun k => k = b) w4.drew (((w4.drew.setCell ⟨b, 2, none⟩ (.int .u32 st)).setCell ⟨b, 3, none⟩ (.bool (bits .and .u8 fl 1 != 0))).setCell ⟨b, 5, none⟩ (.bool false)) := k6.put 5 _
        have hb7 : Blk (((w4.drew.setCell ⟨b, 2, none⟩ (.int .u32 st)).setCell ⟨b, 3, none⟩ (.bool (bits .and .u8 fl 1 != 0))).setCell ⟨b, 5, none⟩ (.bool false)) b #[.int .i64 m, .bool s.opn, .int .u32 st, .bool (bits .and .u8 fl 1 != 0), .slice a0 n0 c0, .bool false] 31 := (hb6.set 5 _).as rfl
        have hS7 : (fun w' : World => w'.cell? ⟨w.heap.size, 1, none⟩ = some (.int .u8 fl) ∧ w'.cell? ⟨w.heap.size, 2, none⟩ = some (.int .u32 st)) (((w4.drew.setCell ⟨b, 2, none⟩ (.int .u32 st)).setCell ⟨b, 3, none⟩ (.bool (bits .and .u8 fl 1 != 0))).setCell ⟨b, 5, none⟩ (.bool false)) := ⟨(k7.blk (kd4.blk HF4.out (fun h => h)) HFN.out).cell 1, (k7.blk (kd4.blk HF4.out (fun h => h)) HFN.out).cell 2⟩
        refine held_skip (i := 17) (((w4.drew.setCell ⟨b, 2, none⟩ (.int .u32 st)).setCell ⟨b, 3, none⟩ (.bool (bits .and .u8 fl 1 != 0))).setCell ⟨b, 5, none⟩ (.bool false)) rfl (by kernel_rfl) (by kernel_rfl) ?_ hS7 ?_
        · go_simp; try with_reducible rfl
        refine wpAnyH_done (by kernel_rfl) ?_ _
        clear hS hS6 hS7 e0 e1 e2 e3 e4 e5 y0 y1 y2 y3 y4 y5
        have K47 : Hid (Keeps (fun k => k = b) w4 (((w4.drew.setCell ⟨b, 2, none⟩ (.int .u32 st)).setCell ⟨b, 3, none⟩ (.bool (bits .and .u8 fl 1 != 0))).setCell ⟨b, 5, none⟩ (.bool false))) := kd4.to.trans k7
        have HB7 := Lib.hid hb7
        clear hbd hb5 hb6 hb7 k5 k6 k7 kd4
        generalize (((w4.drew.setCell ⟨b, 2, none⟩ (.int .u32 st)).setCell ⟨b, 3, none⟩ (.bool (bits .and .u8 fl 1 != 0))).setCell ⟨b, 5, none⟩ (.bool false)) = w7 at *
        refine then_named fun b9 hb9 => ?_
        subst hb9
        go_upto_region 15 with fail
        refine wp_named ?_
        intro w5 hw5
        subst hw5
        have HF7 := Lib.hid (K47.out.blk HF4.out HFN.out)
        have HP7 := Lib.hid (K47.out.blk HP4.out HPN.out)
        have HY7 := Lib.hid (HY4.out.keep K47.out (fun b' hb' e => by have h := HYB.out b' hb'; have h2 : b' = b := e; omega))
        have HK7 := Lib.hid (HK4.out.to.trans K47.out)
        have HS7 : Hid (w2.heap.size + 1 ≤ w7.heap.size) := by show _ ≤ _; have := K47.out.size; have := HS4.out; omega
        have kd7 : Keeps (fun _ => False) w7 w7.drew := (Keeps.refl _ w7).drew
        have p0 : w7.drew.cell? ⟨w2.heap.size, 0, none⟩ = some (.slice a2 m2 c2) := (kd7.blk HP7.out (fun h => h)).cell 0
        have hz1 : (0 : Int) ≤ (0 : Int) := by omega
        refine wp_region_held (S := fun w' : World => w'.cell? ⟨w2.heap.size, 0, none⟩ = some (.slice a2 m2 c2)) (by kernel_rfl) ?_
        change wpAnyH _ _ _ _ _ _ _ _ (World.drew _)
        have hS : (fun w' : World => w'.cell? ⟨w2.heap.size, 0, none⟩ = some (.slice a2 m2 c2)) w7.drew := p0
        refine wpAnyH_take (i := 0) (v := ?_) rfl (by kernel_rfl) (by kernel_rfl) (by kernel_rfl) (fun _ _ _ h => h) (Or.inl ⟨by kernel_rfl, ?_⟩) hS ?_
        rotate_left
        · intro wz _; go_simp; try with_reducible rfl
        refine wpAnyH_take (i := 1) (v := ?_) rfl (by kernel_rfl) (by kernel_rfl) (by kernel_rfl) (fun _ _ _ h => h) (Or.inl ⟨by kernel_rfl, ?_⟩) hS ?_
        rotate_left
        · intro wz _; go_simp; try with_reducible rfl
        refine wpAnyH_take (i := 2) (v := ?_) rfl (by kernel_rfl) (by kernel_rfl) (by kernel_rfl) (fun _ _ _ h => h) (Or.inl ⟨by kernel_rfl, ?_⟩) hS ?_
        rotate_left
        · intro wz _; go_simp; try with_reducible rfl
        refine wpAnyH_take (i := 3) (v := ?_) rfl (by kernel_rfl) (by kernel_rfl) (by kernel_rfl) (fun _ _ _ h => h) (Or.inl ⟨by kernel_rfl, ?_⟩) hS ?_
        rotate_left
        · intro wz _; go_simp; try with_reducible rfl
        refine wpAnyH_take (i := 4) (v := ?_) rfl (by kernel_rfl) (by kernel_rfl) (by kernel_rfl) (fun _ _ _ h => h) (Or.inl ⟨by kernel_rfl, ?_⟩) hS ?_
        rotate_left
        · intro wz _; go_simp; try with_reducible rfl
        refine wpAnyH_take (i := 5) (v := ?_) rfl (by kernel_rfl) (by kernel_rfl) (by kernel_rfl) (fun _ _ _ h => h) (Or.inl ⟨by kernel_rfl, ?_⟩) hS ?_
        rotate_left
        · intro wz _; go_simp; try with_reducible rfl
        refine wpAnyH_take (i := 6) (v := ?_) rfl (by kernel_rfl) (by kernel_rfl) (by kernel_rfl) (fun _ _ _ h => h) (Or.inl ⟨by kernel_rfl, ?_⟩) hS ?_
        rotate_left
        · intro wz _; go_simp; try with_reducible rfl
        refine wpAnyH_take (i := 7) (v := ?_) rfl (by kernel_rfl) (by kernel_rfl) (by kernel_rfl) (fun _ _ _ h => h) (Or.inl ⟨by kernel_rfl, ?_⟩) hS ?_
        rotate_left
        · intro wz _; go_simp; try with_reducible rfl
        refine wpAnyH_take (i := 8) (v := ?_) rfl (by kernel_rfl) (by kernel_rfl) (by kernel_rfl) (fun _ _ _ h => h) (Or.inl ⟨by kernel_rfl, ?_⟩) hS ?_
        rotate_left
        · intro wz _; go_simp; try with_reducible rfl
        clear hS p0
        refine held_full (i := 9) rfl (by kernel_rfl) (by kernel_rfl) (.tmp 103) (.tmp 105) rfl none 0 [] (by kernel_rfl) (By.nil _) a2 m2 c2 ys (by kernel_rfl) (HY7.out.keep kd7 (fun _ _ h => h)) (by have := HML.out; omega) ?_
        intro a8 c8 w8 hx8 hk8 hg8
        have K78 : Keeps (fun _ => False) w7 w8 := kd7.trans hk8
        have HB8 := Lib.hid (K78.blk HB7.out (fun h => h))
        have HP8 := Lib.hid (K78.blk HP7.out (fun h => h))
        have HF8 := Lib.hid (K78.blk HF7.out (fun h => h))
        have hS : (fun w' : World => w'.cell? ⟨w2.heap.size, 0, none⟩ = some (.slice a2 m2 c2)) w8 := HP8.out.cell 0
        refine ⟨hS, ?_⟩
        refine wpAnyH_take (i := 10) (v := ?_) rfl (by kernel_rfl) (by kernel_rfl) (by kernel_rfl) (fun _ _ _ h => h) (Or.inl ⟨by kernel_rfl, ?_⟩) hS ?_
        rotate_left
        · intro wz _; go_simp; try with_reducible rfl
        refine wpAnyH_take (i := 11) (v := ?_) rfl (by kernel_rfl) (by kernel_rfl) (by kernel_rfl) (fun _ _ _ h => h) (Or.inl ⟨by kernel_rfl, ?_⟩) hS ?_
        rotate_left
        · intro wz _; go_simp; try with_reducible rfl
        obtain ⟨⟨e0, e1, e2, e3, e4, e5⟩, y0, y1, y2, y3, y4, y5⟩ := six_cells HB8.out
        have k9 : Keeps (fun k => k = b) w8 (w8.setCell ⟨b, 4, none⟩ (.slice a8 (0 + m2) c8)) := (Keeps.refl _ w8).put 4 _
        have HG8 : Hid (∀ b', a8.map (·.block) = some b' → base ≤ b' ∧ b' < w8.heap.size) := fun b' hb' => by
          have hsz := K78.size
          have hw7 := HK7.out.size
          rcases hg8 b' hb' with h | ⟨h3, h4⟩
          · cases h
          · exact ⟨by have h5 : w7.heap.size ≤ b' := h3; omega, h4⟩
        refine held_skip (i := 12) (w8.setCell ⟨b, 4, none⟩ (.slice a8 (0 + m2) c8)) rfl (by kernel_rfl) (by kernel_rfl) ?_ ((k9.blk HP8.out HPN.out).cell 0) ?_
        · go_simp; try with_reducible rfl
        refine wpAnyH_done (by kernel_rfl) ?_ _
        clear hS e0 e1 e2 e3 e4 e5 y0 y1 y2 y3 y4 y5
        have HB9 : Hid (Blk (w8.setCell ⟨b, 4, none⟩ (.slice a8 (0 + m2) c8)) b #[.int .i64 m, .bool s.opn, .int .u32 st, .bool (bits .and .u8 fl 1 != 0), .slice a8 (0 + m2) c8, .bool false] 31) := Lib.hid ((HB8.out.set 4 _).as rfl)
        have HF9 := Lib.hid (k9.blk HF8.out HFN.out)
        have HX9 := Lib.hid (hx8.keep k9 (fun b' hb' e => by have := (HG8.out b' hb').1; omega))
        have HK9 := Lib.hid ((HK7.out.trans K78.to).trans k9)
        have HS9 : Hid (∀ b', a8.map (·.block) = some b' → base ≤ b' ∧ b' < (w8.setCell ⟨b, 4, none⟩ (.slice a8 (0 + m2) c8)).heap.size) := fun b' hb' => by have := HG8.out b' hb'; simp; omega
        clear k9 kd7 hk8 hx8 hg8
        generalize w8.setCell ⟨b, 4, none⟩ (.slice a8 (0 + m2) c8) = w9 at *
        refine then_named fun b9 hb9 => ?_
        subst hb9
        obtain ⟨⟨e0, e1, e2, e3, e4, e5⟩, y0, y1, y2, y3, y4, y5⟩ := six_cells HB9.out
        have f91 : w9.cell? ⟨w.heap.size, 1, none⟩ = some (.int .u8 fl) := HF9.out.cell 1
        go_wp2_with fail
        go_returns
        exact rfin HADD.out HDN.out HRL.out hbase HM3.out hm4 (by rw [HYS2.out]; exact HX9.out) HS9.out HK9.out (Nat.le_trans hsize HK9.out.size) (by have h := (((HB9.out.set 5 (.bool (bits .and .u8 fl 4 != 0))).set 1 (.bool (!(bits .and .u8 fl 4 != 0))))); exact h.as (by show #[_, _, _, _, _, _] = #[_, _, Value.int .u32 (if s.opn then s.st else st), Value.bool (if s.opn then s.fin else finB fl), _, _]; rw [if_neg (by rw [HO.out]; simp), if_neg (by rw [HO.out]; simp)]; try rfl)) (((Keeps.refl _ w9).put 5 _).put 1 _)

  · have HR : Hid (s.done t fl st xs = false ∧ s.rule t fl st xs = payQ t fl st xs ∧ s.add t fl st xs = s) := Lib.hid ⟨(add_not (takes_pay hq)).2, by unfold Bk.rule; rw [if_neg (by rw [HM.out]; simp), if_neg (by rw [HY.out]; simp), if_pos hq], (add_not (takes_pay hq)).1⟩
    have hqd : (payQ t fl st xs == 0) = false := by simpa using hq
    clear hq2 hq
    generalize payQ t fl st xs = q at *
    go_wp2_with fail
    go_returns
    exact ⟨by rw [HR.out.1, HR.out.2.1]; rfl, by rw [HR.out.2.2]; exact HRK2.out.keep ((Keeps.refl _ w2).alloc _) (fun _ h => False.elim h) (fun h => h), (HK2.out.alloc _).to⟩

theorem radd_any (base b : Nat) (s : Bk) (t fl st : Int) (fa : Option Addr) (fn fc : Nat) (xs : List UInt8) (w : World) (hb : RkM base w b s) (hs : s.Ok) (hx : By w fa fn fc xs) (hn : fn ≤ 1000000) :
    Calls Try.prog 9 #[.pointer (some ⟨b, 0, none⟩), FrV t fl st fa fn fc] w (RdP base b s t fl st xs w) := by
  cases hm : s.may t st with
  | false => exact radd_may base b s t fl st fa fn fc xs w hb hs hx hn hm
  | true =>
    cases hy : s.says t with
    | false => exact radd_says base b s t fl st fa fn fc xs w hb hs hx hn hm hy
    | true =>
      cases ho : s.opn with
      | true => exact radd_open base b s t fl st fa fn fc xs w hb hs hx hn hm hy ho
      | false => exact radd_new base b s t fl st fa fn fc xs w hb hs hx hn hm hy ho

end Go.Proofs.Ytcfljnlfikkhaaa
