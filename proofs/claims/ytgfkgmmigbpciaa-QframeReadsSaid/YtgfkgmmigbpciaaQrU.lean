/- ReadFrame of the package bifoldref17: the way to the switch, and from it. -/
import Derived.Test.YtgfkgmmigbpciaaQrQ
import Derived.Deep.DeepCutAuto
import Derived.Deep.CutBlock
namespace Go.Proofs.Ytgfkgmmigbpciaa
set_option linter.unusedSimpArgs false
set_option linter.unusedVariables false
open Go.RowKit Go.Deep

theorem endG (off : Int) (n : Nat) (h : off ≤ 4611686018427387903) : endB off n = decide ((n : Int) ≤ 4611686018427387903 - off) := by
 unfold endB
 rw [decide_eq_true h]
 rfl
theorem decT_none {t : Int} (ys : List UInt8) (h : t < 0 ∨ t = 3 ∨ 30 < t) : decT t ys = none := by
 unfold decT othD
 repeat rw [if_neg (by omega)]
/-- What is known at the switch. -/
structure RfF (ba off m cap : Nat) (xs ys1 : List UInt8) (t : Int) (p1 rs rb fb : Nat) (DD : Option (Qc × List UInt8)) (w w3 : World) : Prop where
 lt : ∀ b, (some (⟨ba, off, none⟩ : Addr)).map (·.block) = some b → b < w.heap.size
 hm : m ≤ 1000000
 dd : decT t ys1 = DD
 r : Rq w3 rb (some ⟨ba, off, none⟩) m cap xs p1 ys1 true
 k : Below w.heap.size w w3
 z : Blk w3 rs #[.int .u64 0, .int .u64 0, .int .u64 0, .bool false, .int .u64 0, .int .u64 0, .int .u64 0, .slice none 0 0, .slice none 0 0, .bool false, .bool false, .int .i64 0] 32
 l : Blk w3 fb #[.int .u64 t, .int .u64 0, .int .u64 0, .bool false, .int .u64 0, .int .u64 0, .int .u64 0, .slice none 0 0, .slice none 0 0, .bool false, .bool false, .int .i64 0] 32
 ge : w.heap.size ≤ fb ∧ w.heap.size ≤ rb ∧ w.heap.size ≤ rs
 ne : rs ≠ rb ∧ rs ≠ fb ∧ fb ≠ rb
 v : 0 ≤ t ∧ t ≤ 4611686018427387903

set_option maxRecDepth 100000 in
set_option maxHeartbeats 100000000 in
/-- What is left to show at the switch; if it is shown, all is. -/
def rfR : { R : Nat → Nat → Nat → Nat → List UInt8 → List UInt8 → Int → Int → Int → Nat → Nat → Nat → Nat → Option (Qc × List UInt8) → World → World → Prop // ∀  (a : Option Addr) (m cap : Nat) (xs : List UInt8) (t : Int) (ys1 : List UInt8) (w : World) (hb : By w a m cap xs) (hm : m ≤ 1000000) (hlt : ∀ b, a.map (·.block) = some b → b < w.heap.size) (hq : pn xs = some (t, ys1)) (hl : rvL xs = varLenV t) (hc : xs.headD 0 ≠ 0) (h0 : t ≠ 0), (∀ ba off C V p1 rs rb fb DD w3, RfF ba off m cap xs ys1 t p1 rs rb fb DD w w3 → R ba off m cap xs ys1 t C V p1 rs rb fb DD w w3) → Calls Try.prog 18 #[.slice a m cap] w (ReadP m (decT t ys1) w) } := ⟨_, by
 intro a m cap xs t ys1 w hb hm hlt hq hl hc h0 HR
 have hpb := pn_bd hq
 have hxm := hb.1
 have hm0 : 0 < m := by omega
 obtain ⟨ba, off, rfl, _, hcell⟩ := hb.get hm0
 have e0 := hcell 0 (by omega)
 have hx0 : xs.headD 0 = xs[0]'(by omega) := by cases xs with
  | nil => simp at hxm; omega
  | cons c l => rfl
 rw [← hx0] at e0
 obtain ⟨C, hC⟩ : ∃ C : Int, ((xs.headD 0).toNat : Int) = C := ⟨_, rfl⟩
 have hCn : (C == 0) = false := by
  have h0 : (xs.headD 0).toNat ≠ 0 := fun h => hc (UInt8.toNat_inj.1 h)
  simp; omega
 rw [hC] at e0
 simp only [Nat.add_zero] at e0
 have hm1 : ((m : Int) == 0) = false := by simp; omega
 have hmI : (0 : Int) < (m : Int) := by omega
 have HB := Lib.hid hb
 have HLT := Lib.hid hlt
 have HM := Lib.hid hm
 have HQ1 := Lib.hid hq
 have HL1 := Lib.hid hl
 have HV0 : Hid (0 ≤ (t : Int) ∧ (t : Int) ≤ 4611686018427387903) := Lib.hid ⟨hpb.1, hpb.2.1⟩
 obtain ⟨k, hk1, hk2, hk3, hk4, hk8⟩ := hpb.2.2.2
 obtain ⟨V, hV⟩ : ∃ V, varLenV t = V := ⟨_, rfl⟩
 have HVV := Lib.hid hV
 have HKV : Hid ((k : Int) = V ∧ k ≤ m ∧ ys1.length = m - k) := Lib.hid ⟨by rw [← hV, ← hl, hk1], by omega, by rw [hk3, List.length_drop]; omega⟩
 obtain ⟨DD, hDD⟩ : ∃ DD, decT t ys1 = DD := ⟨_, rfl⟩
 rw [hDD]
 have HDD := Lib.hid hDD
 have HRH := Lib.hid HR
 clear hb hlt hq hl hc hcell hx0 hC hxm hpb hk1 hk2 hk3 hk4 hk8 hV hDD HR h0
 go_enter Try.func18, Try.ntmps18
 go_wp2_with fail
 refine calls_named ?_
 intro w0 hw0
 have HZ0 : Hid (Blk w0 w.heap.size #[.int .u64 0, .int .u64 0, .int .u64 0, .bool false, .int .u64 0, .int .u64 0, .int .u64 0, .slice none 0 0, .slice none 0 0, .bool false, .bool false, .int .i64 0] 32) := Lib.hid (by rw [← hw0]; exact (Blk.new _ _ _).alloc _)
 have HR0 : Hid (Rq w0 (w.heap.size + 1) (some ⟨ba, off, none⟩) m cap xs 0 xs true) := Lib.hid ⟨HB.out.keep (by rw [← hw0]; exact ((Keeps.refl (fun _ => False) _).alloc _).alloc _) (fun _ _ h => h), by
   rw [← hw0]
   have h := Blk.new (w.alloc (.cells #[.int .u64 0, .int .u64 0, .int .u64 0, .bool false, .int .u64 0, .int .u64 0, .int .u64 0, .slice none 0 0, .slice none 0 0, .bool false, .bool false, .int .i64 0] 32 (0, 0))) #[.slice (some ⟨ba, off, none⟩) m cap, .int .i64 0, .bool true] 73
   rw [World.size_alloc] at h
   exact h, Nat.zero_le _, rfl, fun b hb => by have := HLT.out b hb; omega, HM.out⟩
 have HK0 : Hid (Below w.heap.size w w0) := Lib.hid (by rw [← hw0]; exact ((Below.refl _ w).alloc (Nat.le_refl _) _).alloc (by simp) _)
 clear hw0 e0 hCn hm1 hmI hm0
 obtain ⟨rs, hrs⟩ : ∃ rs, w.heap.size = rs := ⟨_, rfl⟩
 obtain ⟨rb, hrb⟩ : ∃ rb, w.heap.size + 1 = rb := ⟨_, rfl⟩
 have HRR : Hid (rs = w.heap.size ∧ rb = w.heap.size + 1) := Lib.hid ⟨hrs.symm, hrb.symm⟩
 rw [hrb] at HR0 ⊢
 rw [hrs] at HZ0 ⊢
 clear hrs hrb
 refine (rnum_q rb _ m cap xs 0 xs true w0 HR0.out).mono ?_
 rintro e w1 ⟨hk, v, p1, y1, ok1, rfl, hr, hs⟩
 obtain ⟨rfl, rfl, rfl⟩ : t = v ∧ ys1 = y1 ∧ true = ok1 := by
  have h := HQ1.out
  rcases hs with ⟨_, h2, h3⟩ | ⟨_, h2, _⟩ | ⟨h2, _⟩
  ·rw [h] at h2
   cases h2
   exact ⟨rfl, rfl, h3.symm⟩
  ·rw [h] at h2; cases h2
  ·cases h2
 have HR1 := Lib.hid hr
 have HZ1 := Lib.hid (hk.blk HZ0.out (by have := HRR.out; omega))
 have HK1 : Hid (Below w.heap.size w w1) := Lib.hid (Keeps.below HK0.out hk HK0.out.size (fun k h => by have := HRR.out; omega))
 have hpV : ((p1 : Int) == V) = true := by
  have h1 := HKV.out
  have h2 := hr.len
  have h3 := hr.le
  have h4 : (p1 : Int) = V := by omega
  rw [h4]; simp
 clear hk hr hs HR0 HZ0 HK0
 go_upto_region 11 with fail
 refine wp_named ?_
 intro w2 hw2
 have HR2 := Lib.hid (HR1.out.same (w' := w2) (by rw [← hw2]; exact (Keeps.refl _ _).alloc _))
 have HZ2 : Hid (Blk w2 rs #[.int .u64 0, .int .u64 0, .int .u64 0, .bool false, .int .u64 0, .int .u64 0, .int .u64 0, .slice none 0 0, .slice none 0 0, .bool false, .bool false, .int .i64 0] 32) := Lib.hid (by rw [← hw2]; exact HZ1.out.alloc _)
 have HK2 : Hid (Below w.heap.size w w2) := Lib.hid (by rw [← hw2]; exact HK1.out.alloc HK1.out.size _)
 have HL2 : Hid (Blk w2 w1.heap.size #[.int .u64 t, .int .u64 0, .int .u64 0, .bool false, .int .u64 0, .int .u64 0, .int .u64 0, .slice none 0 0, .slice none 0 0, .bool false, .bool false, .int .i64 0] 32) := Lib.hid (by rw [← hw2]; exact Blk.new _ _ _)
 have hfz := HZ1.out.lt
 have hfr := HR1.out.lt
 have hfs := HK1.out.size
 obtain ⟨fb, hfb⟩ : ∃ fb, w1.heap.size = fb := ⟨_, rfl⟩
 rw [hfb] at HL2 ⊢
 have HGE : Hid (w.heap.size ≤ fb ∧ w.heap.size ≤ rb ∧ w.heap.size ≤ rs) := Lib.hid (by have := HRR.out; omega)
 have HNE : Hid (rs ≠ rb ∧ rs ≠ fb ∧ fb ≠ rb) := Lib.hid (by have := HRR.out; omega)
 clear hw2 hfb hfz hfr hfs HR1 HZ1 HK1
 have c1 : w2.cell? ⟨rb, 1, none⟩ = some (.int .i64 (p1 : Int)) := HR2.out.k.cells.1.2.1
 refine wp_region_held (S := fun w' => w'.cell? ⟨rb, 1, none⟩ = some (.int .i64 (p1 : Int)) ∧ w'.cell? ⟨rb, 1, none⟩ = some (.int .i64 (p1 : Int))) (by kernel_rfl) ?_
 change wpAnyH _ _ _ _ _ _ _ _ (World.drew _)
 have hS : (fun w' : World => w'.cell? ⟨rb, 1, none⟩ = some (.int .i64 (p1 : Int)) ∧ w'.cell? ⟨rb, 1, none⟩ = some (.int .i64 (p1 : Int))) w2.drew := ⟨c1, c1⟩
 refine tH (i := 0) (v := ?_) rfl ?_ hS ?_
 rotate_left
 ·intro wz ⟨_, _⟩; go_simp; try with_reducible rfl
 refine tH (i := 1) (v := ?_) rfl ?_ hS ?_
 rotate_left
 ·intro wz ⟨_, _⟩; go_simp; try with_reducible rfl
 refine tH (i := 2) (v := ?_) rfl ?_ hS ?_
 rotate_left
 ·intro wz ⟨_, _⟩; go_simp; try with_reducible rfl
 refine tH (i := 3) (v := ?_) rfl ?_ hS ?_
 rotate_left
 ·intro wz ⟨_, _⟩; go_simp; try with_reducible rfl
 refine tH (i := 4) (v := ?_) rfl ?_ hS ?_
 rotate_left
 ·intro wz ⟨_, _⟩; go_simp; try with_reducible rfl
 refine held_call (i := 5) 31 #[.int .u64 t] rfl (by kernel_rfl) (by kernel_rfl) (by kernel_rfl) ?_
 refine (varlenr_any t _ HV0.out.1).mono ?_
 rintro e w9 ⟨rfl, rfl⟩
 rw [HVV.out]
 refine ⟨_, rfl, hS, ?_⟩
 refine tH (i := 6) (v := .bool true) rfl ?_ hS ?_
 ·intro wz ⟨_, _⟩; go_simp; try rw [hpV]; try with_reducible rfl
 refine tH (i := 7) (v := ?_) rfl ?_ hS ?_
 rotate_left
 ·intro wz ⟨_, _⟩; go_simp; try with_reducible rfl
 refine wpAnyH_done (by kernel_rfl) ?_ _
 clear hS c1 hpV
 refine thenX_named ?_
 intro w3 hw3
 have HR3 : Hid (Rq w3 rb (some ⟨ba, off, none⟩) m cap xs p1 ys1 true) := Lib.hid (by rw [← hw3]; exact HR2.out.same ((Keeps.refl _ _).drew))
 have HK3 : Hid (Below w.heap.size w w3) := Lib.hid (by rw [← hw3]; exact HK2.out.drew)
 have HZ3 : Hid (Blk w3 rs #[.int .u64 0, .int .u64 0, .int .u64 0, .bool false, .int .u64 0, .int .u64 0, .int .u64 0, .slice none 0 0, .slice none 0 0, .bool false, .bool false, .int .i64 0] 32) := Lib.hid (by rw [← hw3]; exact HZ2.out.drew)
 have HL3 : Hid (Blk w3 fb #[.int .u64 t, .int .u64 0, .int .u64 0, .bool false, .int .u64 0, .int .u64 0, .int .u64 0, .slice none 0 0, .slice none 0 0, .bool false, .bool false, .int .i64 0] 32) := Lib.hid (by rw [← hw3]; exact HL2.out.drew)
 clear hw3 HR2 HK2 HZ2 HL2
 go_upto_block 2 with fail
 go_cut [9] (fun v9 wx => Blk wx rs #[.int .u64 0, .int .u64 0, .int .u64 0, .bool false, .int .u64 0, .int .u64 0, .int .u64 0, .slice none 0 0, .slice none 0 0, .bool false, .bool false, .int .i64 0] 32 ∧ Below w.heap.size w wx ∧ ((v9 = .bool false ∧ DD = none) ∨ (v9 = .bool true ∧ ∃ (ok : Bool) (F : Qf) (q : Nat) (y : List UInt8), Blk wx fb F.cs 32 ∧ Rq wx rb (some ⟨ba, off, none⟩) m cap xs q y ok ∧ (ok = true → DD = some (F.c, y) ∧ Qn (fb + 1) wx F) ∧ (ok = false → DD = none))))
 case first J K' hJ hK =>
  revert J K' hJ hK
  exact HRH.out ba off C V p1 rs rb fb DD w3 ⟨HLT.out, HM.out, HDD.out, HR3.out, HK3.out, HZ3.out, HL3.out, HGE.out, HNE.out, HV0.out⟩
 case rest =>
  clear HRH
  obtain ⟨hz, hk, hcase⟩ := hcut
  have HZc := Lib.hid hz
  have HKc := Lib.hid hk
  clear hz hk
  rcases hcase with ⟨rfl, hdn⟩ | ⟨rfl, ok, F, q, y, hl, hr, hyes, hno⟩
  ·have HDN := Lib.hid hdn
   clear hdn
   have HD : Hid (DD = none) := Lib.hid (HDN.out)
   obtain ⟨t0, t1, t2, t3, t4, t5, t6, t7, t8, t9, t10, t11⟩ := q12_cells HZc.out
   obtain ⟨z0, z1, z2, z3, z4, z5, z6, z7, z8, z9, z10, z11⟩ := q12_free HZc.out
   go_wp2_with fail
   refine bodyPost_ret (v := ?_) ?_ (by kernel_rfl) ?_
   rotate_left
   ·exact rf_results _ _ rs (.int .i64 0) (.int .i64 30) (by kernel_rfl) (by kernel_rfl) (by kernel_rfl) (qs_blk HZc.out _ _ _ _ _ _ _ _ _ _ _ _)
   refine ⟨Keeps.below HKc.out (qs_keep (b := rs) (S := fun k => k = rs) (Keeps.refl _ wc) (fun _ => rfl) (.int .u64 0) (.int .u64 0) (.int .u64 0) (.bool false) (.int .u64 0) (.int .u64 0) (.int .u64 0) (.slice none 0 0) (.slice none 0 0) (.bool false) (.bool false) (.int .i64 0)) HKc.out.size (fun k h => by have h2 := HGE.out; omega), ?_⟩
   first | rfl | (rw [HD.out]; rfl) | rw [HD.out]
  have HLc := Lib.hid hl
  have HRc := Lib.hid hr
  cases ok with
  | false =>
   have HDN := Lib.hid (hno rfl)
   have c2 : wc.cell? ⟨rb, 2, none⟩ = some (.bool false) := HRc.out.k.cells.1.2.2
   clear hl hr hyes hno
   have HD : Hid (DD = none) := Lib.hid (HDN.out)
   obtain ⟨t0, t1, t2, t3, t4, t5, t6, t7, t8, t9, t10, t11⟩ := q12_cells HZc.out
   obtain ⟨z0, z1, z2, z3, z4, z5, z6, z7, z8, z9, z10, z11⟩ := q12_free HZc.out
   go_wp2_with fail
   refine bodyPost_ret (v := ?_) ?_ (by kernel_rfl) ?_
   rotate_left
   ·exact rf_results _ _ rs (.int .i64 0) (.int .i64 30) (by kernel_rfl) (by kernel_rfl) (by kernel_rfl) (qs_blk HZc.out _ _ _ _ _ _ _ _ _ _ _ _)
   refine ⟨Keeps.below HKc.out (qs_keep (b := rs) (S := fun k => k = rs) (Keeps.refl _ wc) (fun _ => rfl) (.int .u64 0) (.int .u64 0) (.int .u64 0) (.bool false) (.int .u64 0) (.int .u64 0) (.int .u64 0) (.slice none 0 0) (.slice none 0 0) (.bool false) (.bool false) (.int .i64 0)) HKc.out.size (fun k h => by have h2 := HGE.out; omega), ?_⟩
   first | rfl | (rw [HD.out]; rfl) | rw [HD.out]
  | true =>
   have HYES := Lib.hid (hyes rfl).1
   have HQN := Lib.hid (hyes rfl).2
   have HFR : Hid (rs < fb + 1) := Lib.hid (by have h1 := HRR.out; have h2 := HGE.out; omega)
   clear hl hr hyes hno
   have HD : Hid (DD = some (F.c, y)) := Lib.hid (HYES.out)
   have c2 : wc.cell? ⟨rb, 2, none⟩ = some (.bool true) := HRc.out.k.cells.1.2.2
   go_upto_region 74 with fail
   clear c2
   have HZd : Hid (Blk wc.drew rs #[.int .u64 0, .int .u64 0, .int .u64 0, .bool false, .int .u64 0, .int .u64 0, .int .u64 0, .slice none 0 0, .slice none 0 0, .bool false, .bool false, .int .i64 0] 32) := Lib.hid HZc.out.drew
   have HLd : Hid (Blk wc.drew fb #[.int .u64 F.c.t, .int .u64 F.c.id, .int .u64 F.c.off, .bool F.c.fin, .int .u64 F.c.mx, .int .u64 F.c.code, .int .u64 F.c.delay, .slice F.ra F.rn F.rc, .slice F.a F.n F.cap, .bool F.c.uni, .bool F.c.app, .int .i64 F.c.N] 32) := Lib.hid HLc.out.drew
   have HRd : Hid (Blk wc.drew rb #[.slice (some ⟨ba, off, none⟩) m cap, .int .i64 (q : Int), .bool true] 73) := Lib.hid (Blk.drew HRc.out.k)
   have HKd : Hid (Keeps (fun k => k = rs) wc wc.drew) := Lib.hid (Keeps.refl _ _).drew
   obtain ⟨wd, hwd⟩ : ∃ wd, wc.drew = wd := ⟨_, rfl⟩
   refine wp_region_held (S := fun w' => Keeps (fun k => k = rs) wd w') (by kernel_rfl) ?_
   change wpAnyH _ _ _ _ _ _ _ _ (World.drew _)
   rw [hwd] at HZd HLd HRd HKd ⊢
   clear hwd
   have hS : (fun w' => Keeps (fun k => k = rs) wd w') wd := Keeps.refl _ _
   refine tH (i := 0) (v := .agg #[.int .u64 F.c.t, .int .u64 F.c.id, .int .u64 F.c.off, .bool F.c.fin, .int .u64 F.c.mx, .int .u64 F.c.code, .int .u64 F.c.delay, .slice F.ra F.rn F.rc, .slice F.a F.n F.cap, .bool F.c.uni, .bool F.c.app, .int .i64 F.c.N]) rfl ?_ hS ?_
   ·intro wz hz
    obtain ⟨r0, r1, r2, r3, r4, r5, r6, r7, r8, r9, r10, r11⟩ := q12_cells (Keeps.blk hz HLd.out (fun h => HNE.out.2.1 h.symm))
    clear hz
    go_simp; try with_reducible rfl
   refine tH (i := 1) (v := ?_) rfl ?_ hS ?_
   rotate_left
   ·intro wz hz; clear hz; go_simp; try with_reducible rfl
   refine tH (i := 2) (v := ?_) rfl ?_ hS ?_
   rotate_left
   ·intro wz hz; clear hz; go_simp; try with_reducible rfl
   refine tH (i := 3) (v := ?_) rfl ?_ hS ?_
   rotate_left
   ·intro wz hz; clear hz; go_simp; try with_reducible rfl
   refine tH (i := 4) (v := .int .i64 (q : Int)) rfl ?_ hS ?_
   ·intro wz hz
    have r1 : wz.cell? ⟨rb, 1, none⟩ = some (.int .i64 (q : Int)) := (Keeps.blk hz HRd.out (fun h => HNE.out.1 h.symm)).cell 1
    clear hz
    go_simp; try with_reducible rfl
   obtain ⟨t0, t1, t2, t3, t4, t5, t6, t7, t8, t9, t10, t11⟩ := q12_cells HZd.out
   obtain ⟨z0, z1, z2, z3, z4, z5, z6, z7, z8, z9, z10, z11⟩ := q12_free HZd.out
   refine held_skip (i := 5) ((((((((((((wd.setCell ⟨rs, 0, none⟩ (.int .u64 F.c.t)).setCell ⟨rs, 1, none⟩ (.int .u64 F.c.id)).setCell ⟨rs, 2, none⟩ (.int .u64 F.c.off)).setCell ⟨rs, 3, none⟩ (.bool F.c.fin)).setCell ⟨rs, 4, none⟩ (.int .u64 F.c.mx)).setCell ⟨rs, 5, none⟩ (.int .u64 F.c.code)).setCell ⟨rs, 6, none⟩ (.int .u64 F.c.delay)).setCell ⟨rs, 7, none⟩ (.slice F.ra F.rn F.rc)).setCell ⟨rs, 8, none⟩ (.slice F.a F.n F.cap)).setCell ⟨rs, 9, none⟩ (.bool F.c.uni)).setCell ⟨rs, 10, none⟩ (.bool F.c.app)).setCell ⟨rs, 11, none⟩ (.int .i64 F.c.N)) rfl (by kernel_rfl) (by kernel_rfl) ?_ (qs_keep (S := fun k => k = rs) (Keeps.refl _ _) (fun _ => rfl) _ _ _ _ _ _ _ _ _ _ _ _) ?_
   ·go_simp; try with_reducible rfl
   clear hS t0 z0 t1 z1 t2 z2 t3 z3 t4 z4 t5 z5 t6 z6 t7 z7 t8 z8 t9 z9 t10 z10 t11 z11
   have hS : (fun w' => Keeps (fun k => k = rs) wd w') ((((((((((((wd.setCell ⟨rs, 0, none⟩ (.int .u64 F.c.t)).setCell ⟨rs, 1, none⟩ (.int .u64 F.c.id)).setCell ⟨rs, 2, none⟩ (.int .u64 F.c.off)).setCell ⟨rs, 3, none⟩ (.bool F.c.fin)).setCell ⟨rs, 4, none⟩ (.int .u64 F.c.mx)).setCell ⟨rs, 5, none⟩ (.int .u64 F.c.code)).setCell ⟨rs, 6, none⟩ (.int .u64 F.c.delay)).setCell ⟨rs, 7, none⟩ (.slice F.ra F.rn F.rc)).setCell ⟨rs, 8, none⟩ (.slice F.a F.n F.cap)).setCell ⟨rs, 9, none⟩ (.bool F.c.uni)).setCell ⟨rs, 10, none⟩ (.bool F.c.app)).setCell ⟨rs, 11, none⟩ (.int .i64 F.c.N)) := qs_keep (S := fun k => k = rs) (Keeps.refl _ _) (fun _ => rfl) _ _ _ _ _ _ _ _ _ _ _ _
   refine tH (i := 6) (v := ?_) rfl ?_ hS ?_
   rotate_left
   ·intro wz hz; clear hz; go_simp; try with_reducible rfl
   refine tH (i := 7) (v := ?_) rfl ?_ hS ?_
   rotate_left
   ·intro wz hz; clear hz; go_simp; try with_reducible rfl
   refine wpAnyH_done (by kernel_rfl) ?_ _
   clear hS
   refine thenX_named ?_
   intro wf hwf
   have HZf : Hid (Blk wf rs #[.int .u64 F.c.t, .int .u64 F.c.id, .int .u64 F.c.off, .bool F.c.fin, .int .u64 F.c.mx, .int .u64 F.c.code, .int .u64 F.c.delay, .slice F.ra F.rn F.rc, .slice F.a F.n F.cap, .bool F.c.uni, .bool F.c.app, .int .i64 F.c.N] 32) := Lib.hid (by rw [← hwf]; exact qs_blk HZd.out _ _ _ _ _ _ _ _ _ _ _ _)
   have HKF : Keeps (fun k => k = rs) wc wf := by rw [← hwf]; exact HKd.out.trans (qs_keep (S := fun k => k = rs) (Keeps.refl _ _) (fun _ => rfl) _ _ _ _ _ _ _ _ _ _ _ _)
   clear hwf
   go_wp2_with fail
   refine bodyPost_ret (v := ?_) ?_ (by kernel_rfl) ?_
   rotate_left
   ·exact rf_results _ _ rs (.int .i64 (q : Int)) (.int .i64 0) (by kernel_rfl) (by kernel_rfl) (by kernel_rfl) HZf.out
   refine ⟨Keeps.below HKc.out HKF HKc.out.size (fun k h => by have h2 := HGE.out; omega), ?_⟩
   try rw [HD.out]
   have hp : q = m - y.length := by have h1 := HRc.out.len; have h2 := HRc.out.le; omega
   exact ⟨F, rfl, by rw [hp]; rfl, ((HQN.out.keep HKF (fun b h => by have h2 := HFR.out; omega)).mono (by have h2 := HGE.out; omega))⟩⟩

end Go.Proofs.Ytgfkgmmigbpciaa
