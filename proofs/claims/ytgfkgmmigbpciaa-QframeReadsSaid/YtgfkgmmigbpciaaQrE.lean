/- The reader of the package qframe: other. -/
import Derived.Test.YtgfkgmmigbpciaaQrA
namespace Go.Proofs.Ytgfkgmmigbpciaa
set_option linter.unusedSimpArgs false
set_option linter.unusedVariables false
open Go.RowKit Go.Deep

theorem other_results (fr : Array Value) (w : World) (b : Nat) {u0 u1 u2 u3 u4 u5 u6 u7 u8 u9 u10 u11 : Value} {t : TypeId} (h2 : fr[4]?.getD undef = .pointer (some ⟨b, 0, none⟩)) (hb : Blk w b #[u0, u1, u2, u3, u4, u5, u6, u7, u8, u9, u10, u11] t) :
  (results Try.f53 fr).run Try.prog w = .ok (.agg #[u0, u1, u2, u3, u4, u5, u6, u7, u8, u9, u10, u11]) w := by
 obtain ⟨s0, s1, s2, s3, s4, s5, s6, s7, s8, s9, s10, s11⟩ := q12_cells hb
 simp [results, Try.results53, go_sem, h2, s0, s1, s2, s3, s4, s5, s6, s7, s8, s9, s10, s11]

set_option maxRecDepth 100000 in
set_option maxHeartbeats 3200000 in
theorem other_16r (rb : Nat) (a : Option Addr) (m cap : Nat) (xs : List UInt8) (p : Nat) (ys : List UInt8) (w : World) (hr : Re w rb a m cap xs p ys) (hlt : ∀ b, a.map (·.block) = some b → b < w.heap.size) :
  Calls Try.prog 53 #[.pointer (some ⟨rb, 0, none⟩), .agg #[.int .u64 16, .int .u64 0, .int .u64 0, .bool false, .int .u64 0, .int .u64 0, .int .u64 0, .slice none 0 0, .slice none 0 0, .bool false, .bool false, .int .i64 0]] w (ReP rb a m cap xs (vFrame w.heap.size) (maxD 16 ys) w) := by
 have HLT := Lib.hid hlt
 have HR := Lib.hid hr
 have hlm : m ≤ 1000000 := hr.small
 have hrb := hr.k.lt
 clear hr hlt
 go_enter Try.func53, Try.ntmps53
 go_upto_region 2 with fail
 refine wp_named ?_
 intro w0 hw0
 have HR0 : Hid (Re w0 rb a m cap xs p ys) := Lib.hid (by rw [← hw0]; exact HR.out.same (((Keeps.refl _ _).alloc _).alloc _))
 have HK0 : Hid (Keeps (fun k => k = rb) w w0) := Lib.hid (by rw [← hw0]; exact ((Keeps.refl _ _).alloc _).alloc _)
 have HZ0 : Hid (Blk w0 (w.heap.size + 1) #[.int .u64 0, .int .u64 0, .int .u64 0, .bool false, .int .u64 0, .int .u64 0, .int .u64 0, .slice none 0 0, .slice none 0 0, .bool false, .bool false, .int .i64 0] 32) := Lib.hid (by rw [← hw0]; have h := Blk.new (w.alloc (.cells #[.int .u64 16, .int .u64 0, .int .u64 0, .bool false, .int .u64 0, .int .u64 0, .int .u64 0, .slice none 0 0, .slice none 0 0, .bool false, .bool false, .int .i64 0] 32 (0, 0))) #[.int .u64 0, .int .u64 0, .int .u64 0, .bool false, .int .u64 0, .int .u64 0, .int .u64 0, .slice none 0 0, .slice none 0 0, .bool false, .bool false, .int .i64 0] 32; rwa [World.size_alloc] at h)
 have HL0 : Hid (Blk w0 w.heap.size #[.int .u64 16, .int .u64 0, .int .u64 0, .bool false, .int .u64 0, .int .u64 0, .int .u64 0, .slice none 0 0, .slice none 0 0, .bool false, .bool false, .int .i64 0] 32) := Lib.hid (by rw [← hw0]; exact (Blk.new w _ _).alloc _)
 obtain ⟨rs, hrs⟩ : ∃ rs, w.heap.size + 1 = rs := ⟨_, rfl⟩
 have HRS : Hid (w.heap.size ≤ rs) := Lib.hid (by omega)
 have HNZ : Hid (¬ rs = rb) := Lib.hid (by omega)
 rw [hrs] at HZ0 ⊢
 obtain ⟨fb, hfb⟩ : ∃ fb, w.heap.size = fb := ⟨_, rfl⟩
 have HFB : Hid (rs ≠ fb ∧ w.heap.size ≤ fb) := Lib.hid (by omega)
 have HNL : Hid (¬ fb = rb) := Lib.hid (by omega)
 rw [hfb] at HL0 ⊢
 clear hw0 hrb HR hrs hfb
 go_wp2_with fail
 refine (num_any rb a m cap xs p ys w0 HR0.out).mono ?_
 rintro e w1 ⟨hk, hr⟩
 have HK1 := Lib.hid (HK0.out.trans hk)
 have HZ1 := Lib.hid (hk.blk HZ0.out HNZ.out)
 have HL1 := Lib.hid (hk.blk HL0.out HNL.out)
 have HSZ1 : Hid (w0.heap.size ≤ w1.heap.size) := Lib.hid hk.size
 clear hk
 cases hq1 : pn ys with
 | none =>
  rw [hq1] at hr
  have hr' : e = .panicked [{ v := stopV, recovered := false }] := hr
  subst hr'
  have HQ1 := Lib.hid hq1
  clear hr hq1
  have HD : Hid (maxD 16 ys = none) := Lib.hid (by unfold maxD; simp only [pb, HQ1.out, Bool.false_eq_true, if_false, if_true, ite_true, ite_false])
  go_wp2_with fail
  refine ⟨rfl, ?_⟩
  rw [HD.out]
  exact ReP.panic HK1.out
 | some x =>
  obtain ⟨v1, ys1⟩ := x
  rw [hq1] at hr
  obtain ⟨p1, val, rfl, rfl, hr⟩ := hr
  have hbd := pn_bd hq1
  have HU1 : Hid (inU v1) := Lib.hid ⟨hbd.1, by omega⟩
  have HV1 : Hid (0 ≤ v1 ∧ v1 ≤ 4611686018427387903) := Lib.hid ⟨hbd.1, hbd.2.1⟩
  have HQ1 := Lib.hid hq1
  have HR1 := Lib.hid hr
  clear hr hq1 hbd
  clear HR0 HK0 HZ0 HL0
  have x4 : w1.cell? ⟨fb, 4, none⟩ = some (.int .u64 0) := HL1.out.cell 4
  have y4 : w1.frozen? ⟨fb, 4, none⟩ = false := HL1.out.free 4
  go_upto_region 34 with fail
  clear x4 y4
  refine wp_named ?_
  intro w2 hw2
  have HR2 : Hid (Re w2 rb a m cap xs p1 ys1) := Lib.hid (by rw [← hw2]; exact HR1.out.keep ((Keeps.refl (fun k => k = fb) w1).put 4 (.int .u64 v1)) (fun h => HNL.out h.symm) (fun b hb h => by have := HLT.out b hb; have := HFB.out.2; omega))
  have HK2 : Hid (Keeps (fun k => k = rb) w w2) := Lib.hid (by rw [← hw2]; exact (HK1.out.setCell (p := ⟨fb, 4, none⟩) (fun h => absurd h (by have := HFB.out.2; dsimp only; omega)) (.int .u64 v1)))
  have HZ2 : Hid (Blk w2 rs #[.int .u64 0, .int .u64 0, .int .u64 0, .bool false, .int .u64 0, .int .u64 0, .int .u64 0, .slice none 0 0, .slice none 0 0, .bool false, .bool false, .int .i64 0] 32) := Lib.hid (by rw [← hw2]; exact ((Keeps.refl (fun k => k = fb) w1).put 4 (.int .u64 v1)).blk HZ1.out HFB.out.1)
  have HL2 : Hid (Blk w2 fb #[.int .u64 16, .int .u64 0, .int .u64 0, .bool false, .int .u64 v1, .int .u64 0, .int .u64 0, .slice none 0 0, .slice none 0 0, .bool false, .bool false, .int .i64 0] 32) := Lib.hid (by rw [← hw2]; exact (HL1.out.set 4 (.int .u64 v1)).as rfl)
  clear hw2
  clear HR1 HK1 HZ1 HL1
  have HD : Hid (maxD 16 ys = some (⟨16, 0, 0, false, v1, 0, 0, [], [], false, false, 0⟩, ys1)) := Lib.hid (by unfold maxD; simp only [pb, HQ1.out, Bool.false_eq_true, if_false, if_true, ite_true, ite_false])
  obtain ⟨x0, x1, x2, x3, x4, x5, x6, x7, x8, x9, x10, x11⟩ := q12_cells HL2.out
  obtain ⟨t0, t1, t2, t3, t4, t5, t6, t7, t8, t9, t10, t11⟩ := q12_cells HZ2.out
  obtain ⟨z0, z1, z2, z3, z4, z5, z6, z7, z8, z9, z10, z11⟩ := q12_free HZ2.out
  go_wp2_with fail
  refine bodyPost_ret (v := ?_) ?_ (by kernel_rfl) ?_
  rotate_left
  ·exact other_results _ _ rs (by kernel_rfl) (qs_blk HZ2.out _ _ _ _ _ _ _ _ _ _ _ _)
  refine ⟨qs_keep HK2.out (fun h => absurd h (by have := HRS.out; omega)) _ _ _ _ _ _ _ _ _ _ _ _, ?_⟩
  rw [HD.out]
  refine ⟨p1, _, rfl, ⟨_, ?_, rfl, Qn.plain _ _ _ _ _ _ _ _ _ _ _ _ ⟨by omega, by omega⟩ inU_0 inU_0 HU1.out inU_0 inU_0 inU_0 (by omega)⟩, HR2.out.keep (qs_keep (S := fun k => k = rs) (Keeps.refl _ _) (fun _ => rfl) _ _ _ _ _ _ _ _ _ _ _ _) (fun h => HNZ.out h.symm) (fun b hb h => by have h1 := HLT.out b hb; have h2 := HRS.out; omega)⟩
  rfl

set_option maxRecDepth 100000 in
set_option maxHeartbeats 3200000 in
theorem other_20r (rb : Nat) (a : Option Addr) (m cap : Nat) (xs : List UInt8) (p : Nat) (ys : List UInt8) (w : World) (hr : Re w rb a m cap xs p ys) (hlt : ∀ b, a.map (·.block) = some b → b < w.heap.size) :
  Calls Try.prog 53 #[.pointer (some ⟨rb, 0, none⟩), .agg #[.int .u64 20, .int .u64 0, .int .u64 0, .bool false, .int .u64 0, .int .u64 0, .int .u64 0, .slice none 0 0, .slice none 0 0, .bool false, .bool false, .int .i64 0]] w (ReP rb a m cap xs (vFrame w.heap.size) (maxD 20 ys) w) := by
 have HLT := Lib.hid hlt
 have HR := Lib.hid hr
 have hlm : m ≤ 1000000 := hr.small
 have hrb := hr.k.lt
 clear hr hlt
 go_enter Try.func53, Try.ntmps53
 go_upto_region 2 with fail
 refine wp_named ?_
 intro w0 hw0
 have HR0 : Hid (Re w0 rb a m cap xs p ys) := Lib.hid (by rw [← hw0]; exact HR.out.same (((Keeps.refl _ _).alloc _).alloc _))
 have HK0 : Hid (Keeps (fun k => k = rb) w w0) := Lib.hid (by rw [← hw0]; exact ((Keeps.refl _ _).alloc _).alloc _)
 have HZ0 : Hid (Blk w0 (w.heap.size + 1) #[.int .u64 0, .int .u64 0, .int .u64 0, .bool false, .int .u64 0, .int .u64 0, .int .u64 0, .slice none 0 0, .slice none 0 0, .bool false, .bool false, .int .i64 0] 32) := Lib.hid (by rw [← hw0]; have h := Blk.new (w.alloc (.cells #[.int .u64 20, .int .u64 0, .int .u64 0, .bool false, .int .u64 0, .int .u64 0, .int .u64 0, .slice none 0 0, .slice none 0 0, .bool false, .bool false, .int .i64 0] 32 (0, 0))) #[.int .u64 0, .int .u64 0, .int .u64 0, .bool false, .int .u64 0, .int .u64 0, .int .u64 0, .slice none 0 0, .slice none 0 0, .bool false, .bool false, .int .i64 0] 32; rwa [World.size_alloc] at h)
 have HL0 : Hid (Blk w0 w.heap.size #[.int .u64 20, .int .u64 0, .int .u64 0, .bool false, .int .u64 0, .int .u64 0, .int .u64 0, .slice none 0 0, .slice none 0 0, .bool false, .bool false, .int .i64 0] 32) := Lib.hid (by rw [← hw0]; exact (Blk.new w _ _).alloc _)
 obtain ⟨rs, hrs⟩ : ∃ rs, w.heap.size + 1 = rs := ⟨_, rfl⟩
 have HRS : Hid (w.heap.size ≤ rs) := Lib.hid (by omega)
 have HNZ : Hid (¬ rs = rb) := Lib.hid (by omega)
 rw [hrs] at HZ0 ⊢
 obtain ⟨fb, hfb⟩ : ∃ fb, w.heap.size = fb := ⟨_, rfl⟩
 have HFB : Hid (rs ≠ fb ∧ w.heap.size ≤ fb) := Lib.hid (by omega)
 have HNL : Hid (¬ fb = rb) := Lib.hid (by omega)
 rw [hfb] at HL0 ⊢
 clear hw0 hrb HR hrs hfb
 go_wp2_with fail
 refine (num_any rb a m cap xs p ys w0 HR0.out).mono ?_
 rintro e w1 ⟨hk, hr⟩
 have HK1 := Lib.hid (HK0.out.trans hk)
 have HZ1 := Lib.hid (hk.blk HZ0.out HNZ.out)
 have HL1 := Lib.hid (hk.blk HL0.out HNL.out)
 have HSZ1 : Hid (w0.heap.size ≤ w1.heap.size) := Lib.hid hk.size
 clear hk
 cases hq1 : pn ys with
 | none =>
  rw [hq1] at hr
  have hr' : e = .panicked [{ v := stopV, recovered := false }] := hr
  subst hr'
  have HQ1 := Lib.hid hq1
  clear hr hq1
  have HD : Hid (maxD 20 ys = none) := Lib.hid (by unfold maxD; simp only [pb, HQ1.out, Bool.false_eq_true, if_false, if_true, ite_true, ite_false])
  go_wp2_with fail
  refine ⟨rfl, ?_⟩
  rw [HD.out]
  exact ReP.panic HK1.out
 | some x =>
  obtain ⟨v1, ys1⟩ := x
  rw [hq1] at hr
  obtain ⟨p1, val, rfl, rfl, hr⟩ := hr
  have hbd := pn_bd hq1
  have HU1 : Hid (inU v1) := Lib.hid ⟨hbd.1, by omega⟩
  have HV1 : Hid (0 ≤ v1 ∧ v1 ≤ 4611686018427387903) := Lib.hid ⟨hbd.1, hbd.2.1⟩
  have HQ1 := Lib.hid hq1
  have HR1 := Lib.hid hr
  clear hr hq1 hbd
  clear HR0 HK0 HZ0 HL0
  have x4 : w1.cell? ⟨fb, 4, none⟩ = some (.int .u64 0) := HL1.out.cell 4
  have y4 : w1.frozen? ⟨fb, 4, none⟩ = false := HL1.out.free 4
  go_upto_region 34 with fail
  clear x4 y4
  refine wp_named ?_
  intro w2 hw2
  have HR2 : Hid (Re w2 rb a m cap xs p1 ys1) := Lib.hid (by rw [← hw2]; exact HR1.out.keep ((Keeps.refl (fun k => k = fb) w1).put 4 (.int .u64 v1)) (fun h => HNL.out h.symm) (fun b hb h => by have := HLT.out b hb; have := HFB.out.2; omega))
  have HK2 : Hid (Keeps (fun k => k = rb) w w2) := Lib.hid (by rw [← hw2]; exact (HK1.out.setCell (p := ⟨fb, 4, none⟩) (fun h => absurd h (by have := HFB.out.2; dsimp only; omega)) (.int .u64 v1)))
  have HZ2 : Hid (Blk w2 rs #[.int .u64 0, .int .u64 0, .int .u64 0, .bool false, .int .u64 0, .int .u64 0, .int .u64 0, .slice none 0 0, .slice none 0 0, .bool false, .bool false, .int .i64 0] 32) := Lib.hid (by rw [← hw2]; exact ((Keeps.refl (fun k => k = fb) w1).put 4 (.int .u64 v1)).blk HZ1.out HFB.out.1)
  have HL2 : Hid (Blk w2 fb #[.int .u64 20, .int .u64 0, .int .u64 0, .bool false, .int .u64 v1, .int .u64 0, .int .u64 0, .slice none 0 0, .slice none 0 0, .bool false, .bool false, .int .i64 0] 32) := Lib.hid (by rw [← hw2]; exact (HL1.out.set 4 (.int .u64 v1)).as rfl)
  clear hw2
  clear HR1 HK1 HZ1 HL1
  have HD : Hid (maxD 20 ys = some (⟨20, 0, 0, false, v1, 0, 0, [], [], false, false, 0⟩, ys1)) := Lib.hid (by unfold maxD; simp only [pb, HQ1.out, Bool.false_eq_true, if_false, if_true, ite_true, ite_false])
  obtain ⟨x0, x1, x2, x3, x4, x5, x6, x7, x8, x9, x10, x11⟩ := q12_cells HL2.out
  obtain ⟨t0, t1, t2, t3, t4, t5, t6, t7, t8, t9, t10, t11⟩ := q12_cells HZ2.out
  obtain ⟨z0, z1, z2, z3, z4, z5, z6, z7, z8, z9, z10, z11⟩ := q12_free HZ2.out
  go_wp2_with fail
  refine bodyPost_ret (v := ?_) ?_ (by kernel_rfl) ?_
  rotate_left
  ·exact other_results _ _ rs (by kernel_rfl) (qs_blk HZ2.out _ _ _ _ _ _ _ _ _ _ _ _)
  refine ⟨qs_keep HK2.out (fun h => absurd h (by have := HRS.out; omega)) _ _ _ _ _ _ _ _ _ _ _ _, ?_⟩
  rw [HD.out]
  refine ⟨p1, _, rfl, ⟨_, ?_, rfl, Qn.plain _ _ _ _ _ _ _ _ _ _ _ _ ⟨by omega, by omega⟩ inU_0 inU_0 HU1.out inU_0 inU_0 inU_0 (by omega)⟩, HR2.out.keep (qs_keep (S := fun k => k = rs) (Keeps.refl _ _) (fun _ => rfl) _ _ _ _ _ _ _ _ _ _ _ _) (fun h => HNZ.out h.symm) (fun b hb h => by have h1 := HLT.out b hb; have h2 := HRS.out; omega)⟩
  rfl

set_option maxRecDepth 100000 in
set_option maxHeartbeats 3200000 in
theorem other_17r (rb : Nat) (a : Option Addr) (m cap : Nat) (xs : List UInt8) (p : Nat) (ys : List UInt8) (w : World) (hr : Re w rb a m cap xs p ys) (hlt : ∀ b, a.map (·.block) = some b → b < w.heap.size) :
  Calls Try.prog 53 #[.pointer (some ⟨rb, 0, none⟩), .agg #[.int .u64 17, .int .u64 0, .int .u64 0, .bool false, .int .u64 0, .int .u64 0, .int .u64 0, .slice none 0 0, .slice none 0 0, .bool false, .bool false, .int .i64 0]] w (ReP rb a m cap xs (vFrame w.heap.size) (msdD 17 ys) w) := by
 have HLT := Lib.hid hlt
 have HR := Lib.hid hr
 have hlm : m ≤ 1000000 := hr.small
 have hrb := hr.k.lt
 clear hr hlt
 go_enter Try.func53, Try.ntmps53
 go_upto_region 2 with fail
 refine wp_named ?_
 intro w0 hw0
 have HR0 : Hid (Re w0 rb a m cap xs p ys) := Lib.hid (by rw [← hw0]; exact HR.out.same (((Keeps.refl _ _).alloc _).alloc _))
 have HK0 : Hid (Keeps (fun k => k = rb) w w0) := Lib.hid (by rw [← hw0]; exact ((Keeps.refl _ _).alloc _).alloc _)
 have HZ0 : Hid (Blk w0 (w.heap.size + 1) #[.int .u64 0, .int .u64 0, .int .u64 0, .bool false, .int .u64 0, .int .u64 0, .int .u64 0, .slice none 0 0, .slice none 0 0, .bool false, .bool false, .int .i64 0] 32) := Lib.hid (by rw [← hw0]; have h := Blk.new (w.alloc (.cells #[.int .u64 17, .int .u64 0, .int .u64 0, .bool false, .int .u64 0, .int .u64 0, .int .u64 0, .slice none 0 0, .slice none 0 0, .bool false, .bool false, .int .i64 0] 32 (0, 0))) #[.int .u64 0, .int .u64 0, .int .u64 0, .bool false, .int .u64 0, .int .u64 0, .int .u64 0, .slice none 0 0, .slice none 0 0, .bool false, .bool false, .int .i64 0] 32; rwa [World.size_alloc] at h)
 have HL0 : Hid (Blk w0 w.heap.size #[.int .u64 17, .int .u64 0, .int .u64 0, .bool false, .int .u64 0, .int .u64 0, .int .u64 0, .slice none 0 0, .slice none 0 0, .bool false, .bool false, .int .i64 0] 32) := Lib.hid (by rw [← hw0]; exact (Blk.new w _ _).alloc _)
 obtain ⟨rs, hrs⟩ : ∃ rs, w.heap.size + 1 = rs := ⟨_, rfl⟩
 have HRS : Hid (w.heap.size ≤ rs) := Lib.hid (by omega)
 have HNZ : Hid (¬ rs = rb) := Lib.hid (by omega)
 rw [hrs] at HZ0 ⊢
 obtain ⟨fb, hfb⟩ : ∃ fb, w.heap.size = fb := ⟨_, rfl⟩
 have HFB : Hid (rs ≠ fb ∧ w.heap.size ≤ fb) := Lib.hid (by omega)
 have HNL : Hid (¬ fb = rb) := Lib.hid (by omega)
 rw [hfb] at HL0 ⊢
 clear hw0 hrb HR hrs hfb
 go_wp2_with fail
 refine (num_any rb a m cap xs p ys w0 HR0.out).mono ?_
 rintro e w1 ⟨hk, hr⟩
 have HK1 := Lib.hid (HK0.out.trans hk)
 have HZ1 := Lib.hid (hk.blk HZ0.out HNZ.out)
 have HL1 := Lib.hid (hk.blk HL0.out HNL.out)
 have HSZ1 : Hid (w0.heap.size ≤ w1.heap.size) := Lib.hid hk.size
 clear hk
 cases hq1 : pn ys with
 | none =>
  rw [hq1] at hr
  have hr' : e = .panicked [{ v := stopV, recovered := false }] := hr
  subst hr'
  have HQ1 := Lib.hid hq1
  clear hr hq1
  have HD : Hid (msdD 17 ys = none) := Lib.hid (by unfold msdD; simp only [pb, HQ1.out, Bool.false_eq_true, if_false, if_true, ite_true, ite_false])
  go_wp2_with fail
  refine ⟨rfl, ?_⟩
  rw [HD.out]
  exact ReP.panic HK1.out
 | some x =>
  obtain ⟨v1, ys1⟩ := x
  rw [hq1] at hr
  obtain ⟨p1, val, rfl, rfl, hr⟩ := hr
  have hbd := pn_bd hq1
  have HU1 : Hid (inU v1) := Lib.hid ⟨hbd.1, by omega⟩
  have HV1 : Hid (0 ≤ v1 ∧ v1 ≤ 4611686018427387903) := Lib.hid ⟨hbd.1, hbd.2.1⟩
  have HQ1 := Lib.hid hq1
  have HR1 := Lib.hid hr
  clear hr hq1 hbd
  clear HR0 HK0 HZ0 HL0
  go_wp2_with fail
  refine (num_any rb a m cap xs p1 ys1 w1 HR1.out).mono ?_
  rintro e w2 ⟨hk, hr⟩
  have HK2 := Lib.hid (HK1.out.trans hk)
  have HZ2 := Lib.hid (hk.blk HZ1.out HNZ.out)
  have HL2 := Lib.hid (hk.blk HL1.out HNL.out)
  have HSZ2 : Hid (w1.heap.size ≤ w2.heap.size) := Lib.hid hk.size
  clear hk
  cases hq2 : pn ys1 with
  | none =>
   rw [hq2] at hr
   have hr' : e = .panicked [{ v := stopV, recovered := false }] := hr
   subst hr'
   have HQ2 := Lib.hid hq2
   clear hr hq2
   have HD : Hid (msdD 17 ys = none) := Lib.hid (by unfold msdD; simp only [pb, HQ1.out, HQ2.out, Bool.false_eq_true, if_false, if_true, ite_true, ite_false])
   go_wp2_with fail
   refine ⟨rfl, ?_⟩
   rw [HD.out]
   exact ReP.panic HK2.out
  | some x =>
   obtain ⟨v2, ys2⟩ := x
   rw [hq2] at hr
   obtain ⟨p2, val, rfl, rfl, hr⟩ := hr
   have hbd := pn_bd hq2
   have HU2 : Hid (inU v2) := Lib.hid ⟨hbd.1, by omega⟩
   have HV2 : Hid (0 ≤ v2 ∧ v2 ≤ 4611686018427387903) := Lib.hid ⟨hbd.1, hbd.2.1⟩
   have HQ2 := Lib.hid hq2
   have HR2 := Lib.hid hr
   clear hr hq2 hbd
   clear HR1 HK1 HZ1 HL1
   have x1 : w2.cell? ⟨fb, 1, none⟩ = some (.int .u64 0) := HL2.out.cell 1
   have x4 : w2.cell? ⟨fb, 4, none⟩ = some (.int .u64 0) := HL2.out.cell 4
   have y1 : w2.frozen? ⟨fb, 1, none⟩ = false := HL2.out.free 1
   have y4 : w2.frozen? ⟨fb, 4, none⟩ = false := HL2.out.free 4
   go_upto_region 34 with fail
   clear x1 y1 x4 y4
   refine wp_named ?_
   intro w3 hw3
   have HR3 : Hid (Re w3 rb a m cap xs p2 ys2) := Lib.hid (by rw [← hw3]; exact HR2.out.keep (((Keeps.refl (fun k => k = fb) w2).put 1 (.int .u64 v1)).put 4 (.int .u64 v2)) (fun h => HNL.out h.symm) (fun b hb h => by have := HLT.out b hb; have := HFB.out.2; omega))
   have HK3 : Hid (Keeps (fun k => k = rb) w w3) := Lib.hid (by rw [← hw3]; exact ((HK2.out.setCell (p := ⟨fb, 1, none⟩) (fun h => absurd h (by have := HFB.out.2; dsimp only; omega)) (.int .u64 v1)).setCell (p := ⟨fb, 4, none⟩) (fun h => absurd h (by have := HFB.out.2; dsimp only; omega)) (.int .u64 v2)))
   have HZ3 : Hid (Blk w3 rs #[.int .u64 0, .int .u64 0, .int .u64 0, .bool false, .int .u64 0, .int .u64 0, .int .u64 0, .slice none 0 0, .slice none 0 0, .bool false, .bool false, .int .i64 0] 32) := Lib.hid (by rw [← hw3]; exact (((Keeps.refl (fun k => k = fb) w2).put 1 (.int .u64 v1)).put 4 (.int .u64 v2)).blk HZ2.out HFB.out.1)
   have HL3 : Hid (Blk w3 fb #[.int .u64 17, .int .u64 v1, .int .u64 0, .bool false, .int .u64 v2, .int .u64 0, .int .u64 0, .slice none 0 0, .slice none 0 0, .bool false, .bool false, .int .i64 0] 32) := Lib.hid (by rw [← hw3]; exact ((HL2.out.set 1 (.int .u64 v1)).set 4 (.int .u64 v2)).as rfl)
   clear hw3
   clear HR2 HK2 HZ2 HL2
   have HD : Hid (msdD 17 ys = some (⟨17, v1, 0, false, v2, 0, 0, [], [], false, false, 0⟩, ys2)) := Lib.hid (by unfold msdD; simp only [pb, HQ1.out, HQ2.out, Bool.false_eq_true, if_false, if_true, ite_true, ite_false])
   obtain ⟨x0, x1, x2, x3, x4, x5, x6, x7, x8, x9, x10, x11⟩ := q12_cells HL3.out
   obtain ⟨t0, t1, t2, t3, t4, t5, t6, t7, t8, t9, t10, t11⟩ := q12_cells HZ3.out
   obtain ⟨z0, z1, z2, z3, z4, z5, z6, z7, z8, z9, z10, z11⟩ := q12_free HZ3.out
   go_wp2_with fail
   refine bodyPost_ret (v := ?_) ?_ (by kernel_rfl) ?_
   rotate_left
   ·exact other_results _ _ rs (by kernel_rfl) (qs_blk HZ3.out _ _ _ _ _ _ _ _ _ _ _ _)
   refine ⟨qs_keep HK3.out (fun h => absurd h (by have := HRS.out; omega)) _ _ _ _ _ _ _ _ _ _ _ _, ?_⟩
   rw [HD.out]
   refine ⟨p2, _, rfl, ⟨_, ?_, rfl, Qn.plain _ _ _ _ _ _ _ _ _ _ _ _ ⟨by omega, by omega⟩ HU1.out inU_0 HU2.out inU_0 inU_0 inU_0 (by omega)⟩, HR3.out.keep (qs_keep (S := fun k => k = rs) (Keeps.refl _ _) (fun _ => rfl) _ _ _ _ _ _ _ _ _ _ _ _) (fun h => HNZ.out h.symm) (fun b hb h => by have h1 := HLT.out b hb; have h2 := HRS.out; omega)⟩
   rfl

set_option maxRecDepth 100000 in
set_option maxHeartbeats 3200000 in
theorem other_21r (rb : Nat) (a : Option Addr) (m cap : Nat) (xs : List UInt8) (p : Nat) (ys : List UInt8) (w : World) (hr : Re w rb a m cap xs p ys) (hlt : ∀ b, a.map (·.block) = some b → b < w.heap.size) :
  Calls Try.prog 53 #[.pointer (some ⟨rb, 0, none⟩), .agg #[.int .u64 21, .int .u64 0, .int .u64 0, .bool false, .int .u64 0, .int .u64 0, .int .u64 0, .slice none 0 0, .slice none 0 0, .bool false, .bool false, .int .i64 0]] w (ReP rb a m cap xs (vFrame w.heap.size) (msdD 21 ys) w) := by
 have HLT := Lib.hid hlt
 have HR := Lib.hid hr
 have hlm : m ≤ 1000000 := hr.small
 have hrb := hr.k.lt
 clear hr hlt
 go_enter Try.func53, Try.ntmps53
 go_upto_region 2 with fail
 refine wp_named ?_
 intro w0 hw0
 have HR0 : Hid (Re w0 rb a m cap xs p ys) := Lib.hid (by rw [← hw0]; exact HR.out.same (((Keeps.refl _ _).alloc _).alloc _))
 have HK0 : Hid (Keeps (fun k => k = rb) w w0) := Lib.hid (by rw [← hw0]; exact ((Keeps.refl _ _).alloc _).alloc _)
 have HZ0 : Hid (Blk w0 (w.heap.size + 1) #[.int .u64 0, .int .u64 0, .int .u64 0, .bool false, .int .u64 0, .int .u64 0, .int .u64 0, .slice none 0 0, .slice none 0 0, .bool false, .bool false, .int .i64 0] 32) := Lib.hid (by rw [← hw0]; have h := Blk.new (w.alloc (.cells #[.int .u64 21, .int .u64 0, .int .u64 0, .bool false, .int .u64 0, .int .u64 0, .int .u64 0, .slice none 0 0, .slice none 0 0, .bool false, .bool false, .int .i64 0] 32 (0, 0))) #[.int .u64 0, .int .u64 0, .int .u64 0, .bool false, .int .u64 0, .int .u64 0, .int .u64 0, .slice none 0 0, .slice none 0 0, .bool false, .bool false, .int .i64 0] 32; rwa [World.size_alloc] at h)
 have HL0 : Hid (Blk w0 w.heap.size #[.int .u64 21, .int .u64 0, .int .u64 0, .bool false, .int .u64 0, .int .u64 0, .int .u64 0, .slice none 0 0, .slice none 0 0, .bool false, .bool false, .int .i64 0] 32) := Lib.hid (by rw [← hw0]; exact (Blk.new w _ _).alloc _)
 obtain ⟨rs, hrs⟩ : ∃ rs, w.heap.size + 1 = rs := ⟨_, rfl⟩
 have HRS : Hid (w.heap.size ≤ rs) := Lib.hid (by omega)
 have HNZ : Hid (¬ rs = rb) := Lib.hid (by omega)
 rw [hrs] at HZ0 ⊢
 obtain ⟨fb, hfb⟩ : ∃ fb, w.heap.size = fb := ⟨_, rfl⟩
 have HFB : Hid (rs ≠ fb ∧ w.heap.size ≤ fb) := Lib.hid (by omega)
 have HNL : Hid (¬ fb = rb) := Lib.hid (by omega)
 rw [hfb] at HL0 ⊢
 clear hw0 hrb HR hrs hfb
 go_wp2_with fail
 refine (num_any rb a m cap xs p ys w0 HR0.out).mono ?_
 rintro e w1 ⟨hk, hr⟩
 have HK1 := Lib.hid (HK0.out.trans hk)
 have HZ1 := Lib.hid (hk.blk HZ0.out HNZ.out)
 have HL1 := Lib.hid (hk.blk HL0.out HNL.out)
 have HSZ1 : Hid (w0.heap.size ≤ w1.heap.size) := Lib.hid hk.size
 clear hk
 cases hq1 : pn ys with
 | none =>
  rw [hq1] at hr
  have hr' : e = .panicked [{ v := stopV, recovered := false }] := hr
  subst hr'
  have HQ1 := Lib.hid hq1
  clear hr hq1
  have HD : Hid (msdD 21 ys = none) := Lib.hid (by unfold msdD; simp only [pb, HQ1.out, Bool.false_eq_true, if_false, if_true, ite_true, ite_false])
  go_wp2_with fail
  refine ⟨rfl, ?_⟩
  rw [HD.out]
  exact ReP.panic HK1.out
 | some x =>
  obtain ⟨v1, ys1⟩ := x
  rw [hq1] at hr
  obtain ⟨p1, val, rfl, rfl, hr⟩ := hr
  have hbd := pn_bd hq1
  have HU1 : Hid (inU v1) := Lib.hid ⟨hbd.1, by omega⟩
  have HV1 : Hid (0 ≤ v1 ∧ v1 ≤ 4611686018427387903) := Lib.hid ⟨hbd.1, hbd.2.1⟩
  have HQ1 := Lib.hid hq1
  have HR1 := Lib.hid hr
  clear hr hq1 hbd
  clear HR0 HK0 HZ0 HL0
  go_wp2_with fail
  refine (num_any rb a m cap xs p1 ys1 w1 HR1.out).mono ?_
  rintro e w2 ⟨hk, hr⟩
  have HK2 := Lib.hid (HK1.out.trans hk)
  have HZ2 := Lib.hid (hk.blk HZ1.out HNZ.out)
  have HL2 := Lib.hid (hk.blk HL1.out HNL.out)
  have HSZ2 : Hid (w1.heap.size ≤ w2.heap.size) := Lib.hid hk.size
  clear hk
  cases hq2 : pn ys1 with
  | none =>
   rw [hq2] at hr
   have hr' : e = .panicked [{ v := stopV, recovered := false }] := hr
   subst hr'
   have HQ2 := Lib.hid hq2
   clear hr hq2
   have HD : Hid (msdD 21 ys = none) := Lib.hid (by unfold msdD; simp only [pb, HQ1.out, HQ2.out, Bool.false_eq_true, if_false, if_true, ite_true, ite_false])
   go_wp2_with fail
   refine ⟨rfl, ?_⟩
   rw [HD.out]
   exact ReP.panic HK2.out
  | some x =>
   obtain ⟨v2, ys2⟩ := x
   rw [hq2] at hr
   obtain ⟨p2, val, rfl, rfl, hr⟩ := hr
   have hbd := pn_bd hq2
   have HU2 : Hid (inU v2) := Lib.hid ⟨hbd.1, by omega⟩
   have HV2 : Hid (0 ≤ v2 ∧ v2 ≤ 4611686018427387903) := Lib.hid ⟨hbd.1, hbd.2.1⟩
   have HQ2 := Lib.hid hq2
   have HR2 := Lib.hid hr
   clear hr hq2 hbd
   clear HR1 HK1 HZ1 HL1
   have x1 : w2.cell? ⟨fb, 1, none⟩ = some (.int .u64 0) := HL2.out.cell 1
   have x4 : w2.cell? ⟨fb, 4, none⟩ = some (.int .u64 0) := HL2.out.cell 4
   have y1 : w2.frozen? ⟨fb, 1, none⟩ = false := HL2.out.free 1
   have y4 : w2.frozen? ⟨fb, 4, none⟩ = false := HL2.out.free 4
   go_upto_region 34 with fail
   clear x1 y1 x4 y4
   refine wp_named ?_
   intro w3 hw3
   have HR3 : Hid (Re w3 rb a m cap xs p2 ys2) := Lib.hid (by rw [← hw3]; exact HR2.out.keep (((Keeps.refl (fun k => k = fb) w2).put 1 (.int .u64 v1)).put 4 (.int .u64 v2)) (fun h => HNL.out h.symm) (fun b hb h => by have := HLT.out b hb; have := HFB.out.2; omega))
   have HK3 : Hid (Keeps (fun k => k = rb) w w3) := Lib.hid (by rw [← hw3]; exact ((HK2.out.setCell (p := ⟨fb, 1, none⟩) (fun h => absurd h (by have := HFB.out.2; dsimp only; omega)) (.int .u64 v1)).setCell (p := ⟨fb, 4, none⟩) (fun h => absurd h (by have := HFB.out.2; dsimp only; omega)) (.int .u64 v2)))
   have HZ3 : Hid (Blk w3 rs #[.int .u64 0, .int .u64 0, .int .u64 0, .bool false, .int .u64 0, .int .u64 0, .int .u64 0, .slice none 0 0, .slice none 0 0, .bool false, .bool false, .int .i64 0] 32) := Lib.hid (by rw [← hw3]; exact (((Keeps.refl (fun k => k = fb) w2).put 1 (.int .u64 v1)).put 4 (.int .u64 v2)).blk HZ2.out HFB.out.1)
   have HL3 : Hid (Blk w3 fb #[.int .u64 21, .int .u64 v1, .int .u64 0, .bool false, .int .u64 v2, .int .u64 0, .int .u64 0, .slice none 0 0, .slice none 0 0, .bool false, .bool false, .int .i64 0] 32) := Lib.hid (by rw [← hw3]; exact ((HL2.out.set 1 (.int .u64 v1)).set 4 (.int .u64 v2)).as rfl)
   clear hw3
   clear HR2 HK2 HZ2 HL2
   have HD : Hid (msdD 21 ys = some (⟨21, v1, 0, false, v2, 0, 0, [], [], false, false, 0⟩, ys2)) := Lib.hid (by unfold msdD; simp only [pb, HQ1.out, HQ2.out, Bool.false_eq_true, if_false, if_true, ite_true, ite_false])
   obtain ⟨x0, x1, x2, x3, x4, x5, x6, x7, x8, x9, x10, x11⟩ := q12_cells HL3.out
   obtain ⟨t0, t1, t2, t3, t4, t5, t6, t7, t8, t9, t10, t11⟩ := q12_cells HZ3.out
   obtain ⟨z0, z1, z2, z3, z4, z5, z6, z7, z8, z9, z10, z11⟩ := q12_free HZ3.out
   go_wp2_with fail
   refine bodyPost_ret (v := ?_) ?_ (by kernel_rfl) ?_
   rotate_left
   ·exact other_results _ _ rs (by kernel_rfl) (qs_blk HZ3.out _ _ _ _ _ _ _ _ _ _ _ _)
   refine ⟨qs_keep HK3.out (fun h => absurd h (by have := HRS.out; omega)) _ _ _ _ _ _ _ _ _ _ _ _, ?_⟩
   rw [HD.out]
   refine ⟨p2, _, rfl, ⟨_, ?_, rfl, Qn.plain _ _ _ _ _ _ _ _ _ _ _ _ ⟨by omega, by omega⟩ HU1.out inU_0 HU2.out inU_0 inU_0 inU_0 (by omega)⟩, HR3.out.keep (qs_keep (S := fun k => k = rs) (Keeps.refl _ _) (fun _ => rfl) _ _ _ _ _ _ _ _ _ _ _ _) (fun h => HNZ.out h.symm) (fun b hb h => by have h1 := HLT.out b hb; have h2 := HRS.out; omega)⟩
   rfl

set_option maxRecDepth 100000 in
set_option maxHeartbeats 3200000 in
theorem other_18r (rb : Nat) (a : Option Addr) (m cap : Nat) (xs : List UInt8) (p : Nat) (ys : List UInt8) (w : World) (hr : Re w rb a m cap xs p ys) (hlt : ∀ b, a.map (·.block) = some b → b < w.heap.size) :
  Calls Try.prog 53 #[.pointer (some ⟨rb, 0, none⟩), .agg #[.int .u64 18, .int .u64 0, .int .u64 0, .bool false, .int .u64 0, .int .u64 0, .int .u64 0, .slice none 0 0, .slice none 0 0, .bool false, .bool false, .int .i64 0]] w (ReP rb a m cap xs (vFrame w.heap.size) (strsD 18 false ys) w) := by
 have HLT := Lib.hid hlt
 have HR := Lib.hid hr
 have hlm : m ≤ 1000000 := hr.small
 have hrb := hr.k.lt
 have b1 : bits .and .u64 18 1 = 0 := by decide +kernel
 have b2 : bits .andNot .u64 18 1 = 18 := by decide +kernel
 clear hr hlt
 go_enter Try.func53, Try.ntmps53
 go_upto_region 2 with fail
 refine wp_named ?_
 intro w0 hw0
 have HR0 : Hid (Re w0 rb a m cap xs p ys) := Lib.hid (by rw [← hw0]; exact HR.out.same (((Keeps.refl _ _).alloc _).alloc _))
 have HK0 : Hid (Keeps (fun k => k = rb) w w0) := Lib.hid (by rw [← hw0]; exact ((Keeps.refl _ _).alloc _).alloc _)
 have HZ0 : Hid (Blk w0 (w.heap.size + 1) #[.int .u64 0, .int .u64 0, .int .u64 0, .bool false, .int .u64 0, .int .u64 0, .int .u64 0, .slice none 0 0, .slice none 0 0, .bool false, .bool false, .int .i64 0] 32) := Lib.hid (by rw [← hw0]; have h := Blk.new (w.alloc (.cells #[.int .u64 18, .int .u64 0, .int .u64 0, .bool false, .int .u64 0, .int .u64 0, .int .u64 0, .slice none 0 0, .slice none 0 0, .bool false, .bool false, .int .i64 0] 32 (0, 0))) #[.int .u64 0, .int .u64 0, .int .u64 0, .bool false, .int .u64 0, .int .u64 0, .int .u64 0, .slice none 0 0, .slice none 0 0, .bool false, .bool false, .int .i64 0] 32; rwa [World.size_alloc] at h)
 have HL0 : Hid (Blk w0 w.heap.size #[.int .u64 18, .int .u64 0, .int .u64 0, .bool false, .int .u64 0, .int .u64 0, .int .u64 0, .slice none 0 0, .slice none 0 0, .bool false, .bool false, .int .i64 0] 32) := Lib.hid (by rw [← hw0]; exact (Blk.new w _ _).alloc _)
 obtain ⟨rs, hrs⟩ : ∃ rs, w.heap.size + 1 = rs := ⟨_, rfl⟩
 have HRS : Hid (w.heap.size ≤ rs) := Lib.hid (by omega)
 have HNZ : Hid (¬ rs = rb) := Lib.hid (by omega)
 rw [hrs] at HZ0 ⊢
 obtain ⟨fb, hfb⟩ : ∃ fb, w.heap.size = fb := ⟨_, rfl⟩
 have HFB : Hid (rs ≠ fb ∧ w.heap.size ≤ fb) := Lib.hid (by omega)
 have HNL : Hid (¬ fb = rb) := Lib.hid (by omega)
 rw [hfb] at HL0 ⊢
 clear hw0 hrb HR hrs hfb
 have x9 : w0.cell? ⟨fb, 9, none⟩ = some (.bool false) := HL0.out.cell 9
 have y9 : w0.frozen? ⟨fb, 9, none⟩ = false := HL0.out.free 9
 go_wp2_with fail
 clear x9 y9
 refine calls_named ?_
 intro w1 hw1
 have HR1 : Hid (Re w1 rb a m cap xs p ys) := Lib.hid (by rw [← hw1]; exact HR0.out.keep ((Keeps.refl (fun k => k = fb) w0).put 9 (.bool false)) (fun h => HNL.out h.symm) (fun b hb h => by have := HLT.out b hb; have := HFB.out.2; omega))
 have HK1 : Hid (Keeps (fun k => k = rb) w w1) := Lib.hid (by rw [← hw1]; exact (HK0.out.setCell (p := ⟨fb, 9, none⟩) (fun h => absurd h (by have := HFB.out.2; dsimp only; omega)) (.bool false)))
 have HZ1 : Hid (Blk w1 rs #[.int .u64 0, .int .u64 0, .int .u64 0, .bool false, .int .u64 0, .int .u64 0, .int .u64 0, .slice none 0 0, .slice none 0 0, .bool false, .bool false, .int .i64 0] 32) := Lib.hid (by rw [← hw1]; exact ((Keeps.refl (fun k => k = fb) w0).put 9 (.bool false)).blk HZ0.out HFB.out.1)
 have HL1 : Hid (Blk w1 fb #[.int .u64 18, .int .u64 0, .int .u64 0, .bool false, .int .u64 0, .int .u64 0, .int .u64 0, .slice none 0 0, .slice none 0 0, .bool false, .bool false, .int .i64 0] 32) := Lib.hid (by rw [← hw1]; exact (HL0.out.set 9 (.bool false)).as rfl)
 clear hw1
 clear HR0 HK0 HZ0 HL0
 refine (num_any rb a m cap xs p ys w1 HR1.out).mono ?_
 rintro e w2 ⟨hk, hr⟩
 have HK2 := Lib.hid (HK1.out.trans hk)
 have HZ2 := Lib.hid (hk.blk HZ1.out HNZ.out)
 have HL2 := Lib.hid (hk.blk HL1.out HNL.out)
 have HSZ2 : Hid (w1.heap.size ≤ w2.heap.size) := Lib.hid hk.size
 clear hk
 cases hq1 : pn ys with
 | none =>
  rw [hq1] at hr
  have hr' : e = .panicked [{ v := stopV, recovered := false }] := hr
  subst hr'
  have HQ1 := Lib.hid hq1
  clear hr hq1
  have HD : Hid (strsD 18 false ys = none) := Lib.hid (by unfold strsD; simp only [pb, HQ1.out, Bool.false_eq_true, if_false, if_true, ite_true, ite_false])
  go_wp2_with fail
  refine ⟨rfl, ?_⟩
  rw [HD.out]
  exact ReP.panic HK2.out
 | some x =>
  obtain ⟨v1, ys1⟩ := x
  rw [hq1] at hr
  obtain ⟨p1, val, rfl, rfl, hr⟩ := hr
  have hbd := pn_bd hq1
  have HU1 : Hid (inU v1) := Lib.hid ⟨hbd.1, by omega⟩
  have HV1 : Hid (0 ≤ v1 ∧ v1 ≤ 4611686018427387903) := Lib.hid ⟨hbd.1, hbd.2.1⟩
  have HQ1 := Lib.hid hq1
  have HR2 := Lib.hid hr
  clear hr hq1 hbd
  clear HR1 HK1 HZ1 HL1
  have x0 : w2.cell? ⟨fb, 0, none⟩ = some (.int .u64 18) := HL2.out.cell 0
  have x4 : w2.cell? ⟨fb, 4, none⟩ = some (.int .u64 0) := HL2.out.cell 4
  have y0 : w2.frozen? ⟨fb, 0, none⟩ = false := HL2.out.free 0
  have y4 : w2.frozen? ⟨fb, 4, none⟩ = false := HL2.out.free 4
  go_upto_region 16 with fail
  clear x0 y0 x4 y4
  refine wp_named ?_
  intro w3 hw3
  have HR3 : Hid (Re w3 rb a m cap xs p1 ys1) := Lib.hid (by rw [← hw3]; exact HR2.out.keep (((Keeps.refl (fun k => k = fb) w2).put 0 (.int .u64 18)).put 4 (.int .u64 v1)) (fun h => HNL.out h.symm) (fun b hb h => by have := HLT.out b hb; have := HFB.out.2; omega))
  have HK3 : Hid (Keeps (fun k => k = rb) w w3) := Lib.hid (by rw [← hw3]; exact ((HK2.out.setCell (p := ⟨fb, 0, none⟩) (fun h => absurd h (by have := HFB.out.2; dsimp only; omega)) (.int .u64 18)).setCell (p := ⟨fb, 4, none⟩) (fun h => absurd h (by have := HFB.out.2; dsimp only; omega)) (.int .u64 v1)))
  have HZ3 : Hid (Blk w3 rs #[.int .u64 0, .int .u64 0, .int .u64 0, .bool false, .int .u64 0, .int .u64 0, .int .u64 0, .slice none 0 0, .slice none 0 0, .bool false, .bool false, .int .i64 0] 32) := Lib.hid (by rw [← hw3]; exact (((Keeps.refl (fun k => k = fb) w2).put 0 (.int .u64 18)).put 4 (.int .u64 v1)).blk HZ2.out HFB.out.1)
  have HL3 : Hid (Blk w3 fb #[.int .u64 18, .int .u64 0, .int .u64 0, .bool false, .int .u64 v1, .int .u64 0, .int .u64 0, .slice none 0 0, .slice none 0 0, .bool false, .bool false, .int .i64 0] 32) := Lib.hid (by rw [← hw3]; exact ((HL2.out.set 0 (.int .u64 18)).set 4 (.int .u64 v1)).as rfl)
  clear hw3
  clear HR2 HK2 HZ2 HL2
  have x4 : w3.cell? ⟨fb, 4, none⟩ = some (.int .u64 v1) := HL3.out.cell 4
  by_cases hm : v1 ≤ 1152921504606846976
  ·have HM := Lib.hid hm
   have hmd : decide (v1 ≤ 1152921504606846976) = true := decide_eq_true hm
   clear hm
   go_wp2_with fail
   refine (must_ok _).mono ?_
   rintro e w99 ⟨rfl, rfl⟩
   clear hmd x4
   go_upto_region 34 with fail
   have HD : Hid (strsD 18 false ys = some (⟨18, 0, 0, false, v1, 0, 0, [], [], false, false, 0⟩, ys1)) := Lib.hid (by unfold strsD; simp only [pb, HQ1.out, Bool.false_eq_true, if_false, if_true, ite_true, ite_false, if_pos HM.out])
   obtain ⟨x0, x1, x2, x3, x4, x5, x6, x7, x8, x9, x10, x11⟩ := q12_cells HL3.out
   obtain ⟨t0, t1, t2, t3, t4, t5, t6, t7, t8, t9, t10, t11⟩ := q12_cells HZ3.out
   obtain ⟨z0, z1, z2, z3, z4, z5, z6, z7, z8, z9, z10, z11⟩ := q12_free HZ3.out
   go_wp2_with fail
   refine bodyPost_ret (v := ?_) ?_ (by kernel_rfl) ?_
   rotate_left
   ·exact other_results _ _ rs (by kernel_rfl) (qs_blk HZ3.out _ _ _ _ _ _ _ _ _ _ _ _)
   refine ⟨qs_keep HK3.out (fun h => absurd h (by have := HRS.out; omega)) _ _ _ _ _ _ _ _ _ _ _ _, ?_⟩
   rw [HD.out]
   refine ⟨p1, _, rfl, ⟨_, ?_, rfl, Qn.plain _ _ _ _ _ _ _ _ _ _ _ _ ⟨by omega, by omega⟩ inU_0 inU_0 HU1.out inU_0 inU_0 inU_0 (by omega)⟩, HR3.out.keep (qs_keep (S := fun k => k = rs) (Keeps.refl _ _) (fun _ => rfl) _ _ _ _ _ _ _ _ _ _ _ _) (fun h => HNZ.out h.symm) (fun b hb h => by have h1 := HLT.out b hb; have h2 := HRS.out; omega)⟩
   rfl
  ·have HM := Lib.hid hm
   have hmd : decide (v1 ≤ 1152921504606846976) = false := decide_eq_false hm
   clear hm
   go_wp2_with fail
   refine (must_no _).mono ?_
   rintro e w99 ⟨rfl, rfl⟩
   clear hmd x4
   have HD : Hid (strsD 18 false ys = none) := Lib.hid (by unfold strsD; simp only [pb, HQ1.out, Bool.false_eq_true, if_false, if_true, ite_true, ite_false, if_neg (show ¬ v1 ≤ 1152921504606846976 from by have := HM.out; omega)])
   go_wp2_with fail
   refine ⟨rfl, ?_⟩
   rw [HD.out]
   exact ReP.panic HK3.out

set_option maxRecDepth 100000 in
set_option maxHeartbeats 3200000 in
theorem other_19r (rb : Nat) (a : Option Addr) (m cap : Nat) (xs : List UInt8) (p : Nat) (ys : List UInt8) (w : World) (hr : Re w rb a m cap xs p ys) (hlt : ∀ b, a.map (·.block) = some b → b < w.heap.size) :
  Calls Try.prog 53 #[.pointer (some ⟨rb, 0, none⟩), .agg #[.int .u64 19, .int .u64 0, .int .u64 0, .bool false, .int .u64 0, .int .u64 0, .int .u64 0, .slice none 0 0, .slice none 0 0, .bool false, .bool false, .int .i64 0]] w (ReP rb a m cap xs (vFrame w.heap.size) (strsD 18 true ys) w) := by
 have HLT := Lib.hid hlt
 have HR := Lib.hid hr
 have hlm : m ≤ 1000000 := hr.small
 have hrb := hr.k.lt
 have b1 : bits .and .u64 19 1 = 1 := by decide +kernel
 have b2 : bits .andNot .u64 19 1 = 18 := by decide +kernel
 clear hr hlt
 go_enter Try.func53, Try.ntmps53
 go_upto_region 2 with fail
 refine wp_named ?_
 intro w0 hw0
 have HR0 : Hid (Re w0 rb a m cap xs p ys) := Lib.hid (by rw [← hw0]; exact HR.out.same (((Keeps.refl _ _).alloc _).alloc _))
 have HK0 : Hid (Keeps (fun k => k = rb) w w0) := Lib.hid (by rw [← hw0]; exact ((Keeps.refl _ _).alloc _).alloc _)
 have HZ0 : Hid (Blk w0 (w.heap.size + 1) #[.int .u64 0, .int .u64 0, .int .u64 0, .bool false, .int .u64 0, .int .u64 0, .int .u64 0, .slice none 0 0, .slice none 0 0, .bool false, .bool false, .int .i64 0] 32) := Lib.hid (by rw [← hw0]; have h := Blk.new (w.alloc (.cells #[.int .u64 19, .int .u64 0, .int .u64 0, .bool false, .int .u64 0, .int .u64 0, .int .u64 0, .slice none 0 0, .slice none 0 0, .bool false, .bool false, .int .i64 0] 32 (0, 0))) #[.int .u64 0, .int .u64 0, .int .u64 0, .bool false, .int .u64 0, .int .u64 0, .int .u64 0, .slice none 0 0, .slice none 0 0, .bool false, .bool false, .int .i64 0] 32; rwa [World.size_alloc] at h)
 have HL0 : Hid (Blk w0 w.heap.size #[.int .u64 19, .int .u64 0, .int .u64 0, .bool false, .int .u64 0, .int .u64 0, .int .u64 0, .slice none 0 0, .slice none 0 0, .bool false, .bool false, .int .i64 0] 32) := Lib.hid (by rw [← hw0]; exact (Blk.new w _ _).alloc _)
 obtain ⟨rs, hrs⟩ : ∃ rs, w.heap.size + 1 = rs := ⟨_, rfl⟩
 have HRS : Hid (w.heap.size ≤ rs) := Lib.hid (by omega)
 have HNZ : Hid (¬ rs = rb) := Lib.hid (by omega)
 rw [hrs] at HZ0 ⊢
 obtain ⟨fb, hfb⟩ : ∃ fb, w.heap.size = fb := ⟨_, rfl⟩
 have HFB : Hid (rs ≠ fb ∧ w.heap.size ≤ fb) := Lib.hid (by omega)
 have HNL : Hid (¬ fb = rb) := Lib.hid (by omega)
 rw [hfb] at HL0 ⊢
 clear hw0 hrb HR hrs hfb
 have x9 : w0.cell? ⟨fb, 9, none⟩ = some (.bool false) := HL0.out.cell 9
 have y9 : w0.frozen? ⟨fb, 9, none⟩ = false := HL0.out.free 9
 go_wp2_with fail
 clear x9 y9
 refine calls_named ?_
 intro w1 hw1
 have HR1 : Hid (Re w1 rb a m cap xs p ys) := Lib.hid (by rw [← hw1]; exact HR0.out.keep ((Keeps.refl (fun k => k = fb) w0).put 9 (.bool true)) (fun h => HNL.out h.symm) (fun b hb h => by have := HLT.out b hb; have := HFB.out.2; omega))
 have HK1 : Hid (Keeps (fun k => k = rb) w w1) := Lib.hid (by rw [← hw1]; exact (HK0.out.setCell (p := ⟨fb, 9, none⟩) (fun h => absurd h (by have := HFB.out.2; dsimp only; omega)) (.bool true)))
 have HZ1 : Hid (Blk w1 rs #[.int .u64 0, .int .u64 0, .int .u64 0, .bool false, .int .u64 0, .int .u64 0, .int .u64 0, .slice none 0 0, .slice none 0 0, .bool false, .bool false, .int .i64 0] 32) := Lib.hid (by rw [← hw1]; exact ((Keeps.refl (fun k => k = fb) w0).put 9 (.bool true)).blk HZ0.out HFB.out.1)
 have HL1 : Hid (Blk w1 fb #[.int .u64 19, .int .u64 0, .int .u64 0, .bool false, .int .u64 0, .int .u64 0, .int .u64 0, .slice none 0 0, .slice none 0 0, .bool true, .bool false, .int .i64 0] 32) := Lib.hid (by rw [← hw1]; exact (HL0.out.set 9 (.bool true)).as rfl)
 clear hw1
 clear HR0 HK0 HZ0 HL0
 refine (num_any rb a m cap xs p ys w1 HR1.out).mono ?_
 rintro e w2 ⟨hk, hr⟩
 have HK2 := Lib.hid (HK1.out.trans hk)
 have HZ2 := Lib.hid (hk.blk HZ1.out HNZ.out)
 have HL2 := Lib.hid (hk.blk HL1.out HNL.out)
 have HSZ2 : Hid (w1.heap.size ≤ w2.heap.size) := Lib.hid hk.size
 clear hk
 cases hq1 : pn ys with
 | none =>
  rw [hq1] at hr
  have hr' : e = .panicked [{ v := stopV, recovered := false }] := hr
  subst hr'
  have HQ1 := Lib.hid hq1
  clear hr hq1
  have HD : Hid (strsD 18 true ys = none) := Lib.hid (by unfold strsD; simp only [pb, HQ1.out, Bool.false_eq_true, if_false, if_true, ite_true, ite_false])
  go_wp2_with fail
  refine ⟨rfl, ?_⟩
  rw [HD.out]
  exact ReP.panic HK2.out
 | some x =>
  obtain ⟨v1, ys1⟩ := x
  rw [hq1] at hr
  obtain ⟨p1, val, rfl, rfl, hr⟩ := hr
  have hbd := pn_bd hq1
  have HU1 : Hid (inU v1) := Lib.hid ⟨hbd.1, by omega⟩
  have HV1 : Hid (0 ≤ v1 ∧ v1 ≤ 4611686018427387903) := Lib.hid ⟨hbd.1, hbd.2.1⟩
  have HQ1 := Lib.hid hq1
  have HR2 := Lib.hid hr
  clear hr hq1 hbd
  clear HR1 HK1 HZ1 HL1
  have x0 : w2.cell? ⟨fb, 0, none⟩ = some (.int .u64 19) := HL2.out.cell 0
  have x4 : w2.cell? ⟨fb, 4, none⟩ = some (.int .u64 0) := HL2.out.cell 4
  have y0 : w2.frozen? ⟨fb, 0, none⟩ = false := HL2.out.free 0
  have y4 : w2.frozen? ⟨fb, 4, none⟩ = false := HL2.out.free 4
  go_upto_region 16 with fail
  clear x0 y0 x4 y4
  refine wp_named ?_
  intro w3 hw3
  have HR3 : Hid (Re w3 rb a m cap xs p1 ys1) := Lib.hid (by rw [← hw3]; exact HR2.out.keep (((Keeps.refl (fun k => k = fb) w2).put 0 (.int .u64 18)).put 4 (.int .u64 v1)) (fun h => HNL.out h.symm) (fun b hb h => by have := HLT.out b hb; have := HFB.out.2; omega))
  have HK3 : Hid (Keeps (fun k => k = rb) w w3) := Lib.hid (by rw [← hw3]; exact ((HK2.out.setCell (p := ⟨fb, 0, none⟩) (fun h => absurd h (by have := HFB.out.2; dsimp only; omega)) (.int .u64 18)).setCell (p := ⟨fb, 4, none⟩) (fun h => absurd h (by have := HFB.out.2; dsimp only; omega)) (.int .u64 v1)))
  have HZ3 : Hid (Blk w3 rs #[.int .u64 0, .int .u64 0, .int .u64 0, .bool false, .int .u64 0, .int .u64 0, .int .u64 0, .slice none 0 0, .slice none 0 0, .bool false, .bool false, .int .i64 0] 32) := Lib.hid (by rw [← hw3]; exact (((Keeps.refl (fun k => k = fb) w2).put 0 (.int .u64 18)).put 4 (.int .u64 v1)).blk HZ2.out HFB.out.1)
  have HL3 : Hid (Blk w3 fb #[.int .u64 18, .int .u64 0, .int .u64 0, .bool false, .int .u64 v1, .int .u64 0, .int .u64 0, .slice none 0 0, .slice none 0 0, .bool true, .bool false, .int .i64 0] 32) := Lib.hid (by rw [← hw3]; exact ((HL2.out.set 0 (.int .u64 18)).set 4 (.int .u64 v1)).as rfl)
  clear hw3
  clear HR2 HK2 HZ2 HL2
  have x4 : w3.cell? ⟨fb, 4, none⟩ = some (.int .u64 v1) := HL3.out.cell 4
  by_cases hm : v1 ≤ 1152921504606846976
  ·have HM := Lib.hid hm
   have hmd : decide (v1 ≤ 1152921504606846976) = true := decide_eq_true hm
   clear hm
   go_wp2_with fail
   refine (must_ok _).mono ?_
   rintro e w99 ⟨rfl, rfl⟩
   clear hmd x4
   go_upto_region 34 with fail
   have HD : Hid (strsD 18 true ys = some (⟨18, 0, 0, false, v1, 0, 0, [], [], true, false, 0⟩, ys1)) := Lib.hid (by unfold strsD; simp only [pb, HQ1.out, Bool.false_eq_true, if_false, if_true, ite_true, ite_false, if_pos HM.out])
   obtain ⟨x0, x1, x2, x3, x4, x5, x6, x7, x8, x9, x10, x11⟩ := q12_cells HL3.out
   obtain ⟨t0, t1, t2, t3, t4, t5, t6, t7, t8, t9, t10, t11⟩ := q12_cells HZ3.out
   obtain ⟨z0, z1, z2, z3, z4, z5, z6, z7, z8, z9, z10, z11⟩ := q12_free HZ3.out
   go_wp2_with fail
   refine bodyPost_ret (v := ?_) ?_ (by kernel_rfl) ?_
   rotate_left
   ·exact other_results _ _ rs (by kernel_rfl) (qs_blk HZ3.out _ _ _ _ _ _ _ _ _ _ _ _)
   refine ⟨qs_keep HK3.out (fun h => absurd h (by have := HRS.out; omega)) _ _ _ _ _ _ _ _ _ _ _ _, ?_⟩
   rw [HD.out]
   refine ⟨p1, _, rfl, ⟨_, ?_, rfl, Qn.plain _ _ _ _ _ _ _ _ _ _ _ _ ⟨by omega, by omega⟩ inU_0 inU_0 HU1.out inU_0 inU_0 inU_0 (by omega)⟩, HR3.out.keep (qs_keep (S := fun k => k = rs) (Keeps.refl _ _) (fun _ => rfl) _ _ _ _ _ _ _ _ _ _ _ _) (fun h => HNZ.out h.symm) (fun b hb h => by have h1 := HLT.out b hb; have h2 := HRS.out; omega)⟩
   rfl
  ·have HM := Lib.hid hm
   have hmd : decide (v1 ≤ 1152921504606846976) = false := decide_eq_false hm
   clear hm
   go_wp2_with fail
   refine (must_no _).mono ?_
   rintro e w99 ⟨rfl, rfl⟩
   clear hmd x4
   have HD : Hid (strsD 18 true ys = none) := Lib.hid (by unfold strsD; simp only [pb, HQ1.out, Bool.false_eq_true, if_false, if_true, ite_true, ite_false, if_neg (show ¬ v1 ≤ 1152921504606846976 from by have := HM.out; omega)])
   go_wp2_with fail
   refine ⟨rfl, ?_⟩
   rw [HD.out]
   exact ReP.panic HK3.out

set_option maxRecDepth 100000 in
set_option maxHeartbeats 3200000 in
theorem other_22r (rb : Nat) (a : Option Addr) (m cap : Nat) (xs : List UInt8) (p : Nat) (ys : List UInt8) (w : World) (hr : Re w rb a m cap xs p ys) (hlt : ∀ b, a.map (·.block) = some b → b < w.heap.size) :
  Calls Try.prog 53 #[.pointer (some ⟨rb, 0, none⟩), .agg #[.int .u64 22, .int .u64 0, .int .u64 0, .bool false, .int .u64 0, .int .u64 0, .int .u64 0, .slice none 0 0, .slice none 0 0, .bool false, .bool false, .int .i64 0]] w (ReP rb a m cap xs (vFrame w.heap.size) (strsD 22 false ys) w) := by
 have HLT := Lib.hid hlt
 have HR := Lib.hid hr
 have hlm : m ≤ 1000000 := hr.small
 have hrb := hr.k.lt
 have b1 : bits .and .u64 22 1 = 0 := by decide +kernel
 have b2 : bits .andNot .u64 22 1 = 22 := by decide +kernel
 clear hr hlt
 go_enter Try.func53, Try.ntmps53
 go_upto_region 2 with fail
 refine wp_named ?_
 intro w0 hw0
 have HR0 : Hid (Re w0 rb a m cap xs p ys) := Lib.hid (by rw [← hw0]; exact HR.out.same (((Keeps.refl _ _).alloc _).alloc _))
 have HK0 : Hid (Keeps (fun k => k = rb) w w0) := Lib.hid (by rw [← hw0]; exact ((Keeps.refl _ _).alloc _).alloc _)
 have HZ0 : Hid (Blk w0 (w.heap.size + 1) #[.int .u64 0, .int .u64 0, .int .u64 0, .bool false, .int .u64 0, .int .u64 0, .int .u64 0, .slice none 0 0, .slice none 0 0, .bool false, .bool false, .int .i64 0] 32) := Lib.hid (by rw [← hw0]; have h := Blk.new (w.alloc (.cells #[.int .u64 22, .int .u64 0, .int .u64 0, .bool false, .int .u64 0, .int .u64 0, .int .u64 0, .slice none 0 0, .slice none 0 0, .bool false, .bool false, .int .i64 0] 32 (0, 0))) #[.int .u64 0, .int .u64 0, .int .u64 0, .bool false, .int .u64 0, .int .u64 0, .int .u64 0, .slice none 0 0, .slice none 0 0, .bool false, .bool false, .int .i64 0] 32; rwa [World.size_alloc] at h)
 have HL0 : Hid (Blk w0 w.heap.size #[.int .u64 22, .int .u64 0, .int .u64 0, .bool false, .int .u64 0, .int .u64 0, .int .u64 0, .slice none 0 0, .slice none 0 0, .bool false, .bool false, .int .i64 0] 32) := Lib.hid (by rw [← hw0]; exact (Blk.new w _ _).alloc _)
 obtain ⟨rs, hrs⟩ : ∃ rs, w.heap.size + 1 = rs := ⟨_, rfl⟩
 have HRS : Hid (w.heap.size ≤ rs) := Lib.hid (by omega)
 have HNZ : Hid (¬ rs = rb) := Lib.hid (by omega)
 rw [hrs] at HZ0 ⊢
 obtain ⟨fb, hfb⟩ : ∃ fb, w.heap.size = fb := ⟨_, rfl⟩
 have HFB : Hid (rs ≠ fb ∧ w.heap.size ≤ fb) := Lib.hid (by omega)
 have HNL : Hid (¬ fb = rb) := Lib.hid (by omega)
 rw [hfb] at HL0 ⊢
 clear hw0 hrb HR hrs hfb
 have x9 : w0.cell? ⟨fb, 9, none⟩ = some (.bool false) := HL0.out.cell 9
 have y9 : w0.frozen? ⟨fb, 9, none⟩ = false := HL0.out.free 9
 go_wp2_with fail
 clear x9 y9
 refine calls_named ?_
 intro w1 hw1
 have HR1 : Hid (Re w1 rb a m cap xs p ys) := Lib.hid (by rw [← hw1]; exact HR0.out.keep ((Keeps.refl (fun k => k = fb) w0).put 9 (.bool false)) (fun h => HNL.out h.symm) (fun b hb h => by have := HLT.out b hb; have := HFB.out.2; omega))
 have HK1 : Hid (Keeps (fun k => k = rb) w w1) := Lib.hid (by rw [← hw1]; exact (HK0.out.setCell (p := ⟨fb, 9, none⟩) (fun h => absurd h (by have := HFB.out.2; dsimp only; omega)) (.bool false)))
 have HZ1 : Hid (Blk w1 rs #[.int .u64 0, .int .u64 0, .int .u64 0, .bool false, .int .u64 0, .int .u64 0, .int .u64 0, .slice none 0 0, .slice none 0 0, .bool false, .bool false, .int .i64 0] 32) := Lib.hid (by rw [← hw1]; exact ((Keeps.refl (fun k => k = fb) w0).put 9 (.bool false)).blk HZ0.out HFB.out.1)
 have HL1 : Hid (Blk w1 fb #[.int .u64 22, .int .u64 0, .int .u64 0, .bool false, .int .u64 0, .int .u64 0, .int .u64 0, .slice none 0 0, .slice none 0 0, .bool false, .bool false, .int .i64 0] 32) := Lib.hid (by rw [← hw1]; exact (HL0.out.set 9 (.bool false)).as rfl)
 clear hw1
 clear HR0 HK0 HZ0 HL0
 refine (num_any rb a m cap xs p ys w1 HR1.out).mono ?_
 rintro e w2 ⟨hk, hr⟩
 have HK2 := Lib.hid (HK1.out.trans hk)
 have HZ2 := Lib.hid (hk.blk HZ1.out HNZ.out)
 have HL2 := Lib.hid (hk.blk HL1.out HNL.out)
 have HSZ2 : Hid (w1.heap.size ≤ w2.heap.size) := Lib.hid hk.size
 clear hk
 cases hq1 : pn ys with
 | none =>
  rw [hq1] at hr
  have hr' : e = .panicked [{ v := stopV, recovered := false }] := hr
  subst hr'
  have HQ1 := Lib.hid hq1
  clear hr hq1
  have HD : Hid (strsD 22 false ys = none) := Lib.hid (by unfold strsD; simp only [pb, HQ1.out, Bool.false_eq_true, if_false, if_true, ite_true, ite_false])
  go_wp2_with fail
  refine ⟨rfl, ?_⟩
  rw [HD.out]
  exact ReP.panic HK2.out
 | some x =>
  obtain ⟨v1, ys1⟩ := x
  rw [hq1] at hr
  obtain ⟨p1, val, rfl, rfl, hr⟩ := hr
  have hbd := pn_bd hq1
  have HU1 : Hid (inU v1) := Lib.hid ⟨hbd.1, by omega⟩
  have HV1 : Hid (0 ≤ v1 ∧ v1 ≤ 4611686018427387903) := Lib.hid ⟨hbd.1, hbd.2.1⟩
  have HQ1 := Lib.hid hq1
  have HR2 := Lib.hid hr
  clear hr hq1 hbd
  clear HR1 HK1 HZ1 HL1
  have x0 : w2.cell? ⟨fb, 0, none⟩ = some (.int .u64 22) := HL2.out.cell 0
  have x4 : w2.cell? ⟨fb, 4, none⟩ = some (.int .u64 0) := HL2.out.cell 4
  have y0 : w2.frozen? ⟨fb, 0, none⟩ = false := HL2.out.free 0
  have y4 : w2.frozen? ⟨fb, 4, none⟩ = false := HL2.out.free 4
  go_upto_region 16 with fail
  clear x0 y0 x4 y4
  refine wp_named ?_
  intro w3 hw3
  have HR3 : Hid (Re w3 rb a m cap xs p1 ys1) := Lib.hid (by rw [← hw3]; exact HR2.out.keep (((Keeps.refl (fun k => k = fb) w2).put 0 (.int .u64 22)).put 4 (.int .u64 v1)) (fun h => HNL.out h.symm) (fun b hb h => by have := HLT.out b hb; have := HFB.out.2; omega))
  have HK3 : Hid (Keeps (fun k => k = rb) w w3) := Lib.hid (by rw [← hw3]; exact ((HK2.out.setCell (p := ⟨fb, 0, none⟩) (fun h => absurd h (by have := HFB.out.2; dsimp only; omega)) (.int .u64 22)).setCell (p := ⟨fb, 4, none⟩) (fun h => absurd h (by have := HFB.out.2; dsimp only; omega)) (.int .u64 v1)))
  have HZ3 : Hid (Blk w3 rs #[.int .u64 0, .int .u64 0, .int .u64 0, .bool false, .int .u64 0, .int .u64 0, .int .u64 0, .slice none 0 0, .slice none 0 0, .bool false, .bool false, .int .i64 0] 32) := Lib.hid (by rw [← hw3]; exact (((Keeps.refl (fun k => k = fb) w2).put 0 (.int .u64 22)).put 4 (.int .u64 v1)).blk HZ2.out HFB.out.1)
  have HL3 : Hid (Blk w3 fb #[.int .u64 22, .int .u64 0, .int .u64 0, .bool false, .int .u64 v1, .int .u64 0, .int .u64 0, .slice none 0 0, .slice none 0 0, .bool false, .bool false, .int .i64 0] 32) := Lib.hid (by rw [← hw3]; exact ((HL2.out.set 0 (.int .u64 22)).set 4 (.int .u64 v1)).as rfl)
  clear hw3
  clear HR2 HK2 HZ2 HL2
  have x4 : w3.cell? ⟨fb, 4, none⟩ = some (.int .u64 v1) := HL3.out.cell 4
  by_cases hm : v1 ≤ 1152921504606846976
  ·have HM := Lib.hid hm
   have hmd : decide (v1 ≤ 1152921504606846976) = true := decide_eq_true hm
   clear hm
   go_wp2_with fail
   refine (must_ok _).mono ?_
   rintro e w99 ⟨rfl, rfl⟩
   clear hmd x4
   go_upto_region 34 with fail
   have HD : Hid (strsD 22 false ys = some (⟨22, 0, 0, false, v1, 0, 0, [], [], false, false, 0⟩, ys1)) := Lib.hid (by unfold strsD; simp only [pb, HQ1.out, Bool.false_eq_true, if_false, if_true, ite_true, ite_false, if_pos HM.out])
   obtain ⟨x0, x1, x2, x3, x4, x5, x6, x7, x8, x9, x10, x11⟩ := q12_cells HL3.out
   obtain ⟨t0, t1, t2, t3, t4, t5, t6, t7, t8, t9, t10, t11⟩ := q12_cells HZ3.out
   obtain ⟨z0, z1, z2, z3, z4, z5, z6, z7, z8, z9, z10, z11⟩ := q12_free HZ3.out
   go_wp2_with fail
   refine bodyPost_ret (v := ?_) ?_ (by kernel_rfl) ?_
   rotate_left
   ·exact other_results _ _ rs (by kernel_rfl) (qs_blk HZ3.out _ _ _ _ _ _ _ _ _ _ _ _)
   refine ⟨qs_keep HK3.out (fun h => absurd h (by have := HRS.out; omega)) _ _ _ _ _ _ _ _ _ _ _ _, ?_⟩
   rw [HD.out]
   refine ⟨p1, _, rfl, ⟨_, ?_, rfl, Qn.plain _ _ _ _ _ _ _ _ _ _ _ _ ⟨by omega, by omega⟩ inU_0 inU_0 HU1.out inU_0 inU_0 inU_0 (by omega)⟩, HR3.out.keep (qs_keep (S := fun k => k = rs) (Keeps.refl _ _) (fun _ => rfl) _ _ _ _ _ _ _ _ _ _ _ _) (fun h => HNZ.out h.symm) (fun b hb h => by have h1 := HLT.out b hb; have h2 := HRS.out; omega)⟩
   rfl
  ·have HM := Lib.hid hm
   have hmd : decide (v1 ≤ 1152921504606846976) = false := decide_eq_false hm
   clear hm
   go_wp2_with fail
   refine (must_no _).mono ?_
   rintro e w99 ⟨rfl, rfl⟩
   clear hmd x4
   have HD : Hid (strsD 22 false ys = none) := Lib.hid (by unfold strsD; simp only [pb, HQ1.out, Bool.false_eq_true, if_false, if_true, ite_true, ite_false, if_neg (show ¬ v1 ≤ 1152921504606846976 from by have := HM.out; omega)])
   go_wp2_with fail
   refine ⟨rfl, ?_⟩
   rw [HD.out]
   exact ReP.panic HK3.out

set_option maxRecDepth 100000 in
set_option maxHeartbeats 3200000 in
theorem other_23r (rb : Nat) (a : Option Addr) (m cap : Nat) (xs : List UInt8) (p : Nat) (ys : List UInt8) (w : World) (hr : Re w rb a m cap xs p ys) (hlt : ∀ b, a.map (·.block) = some b → b < w.heap.size) :
  Calls Try.prog 53 #[.pointer (some ⟨rb, 0, none⟩), .agg #[.int .u64 23, .int .u64 0, .int .u64 0, .bool false, .int .u64 0, .int .u64 0, .int .u64 0, .slice none 0 0, .slice none 0 0, .bool false, .bool false, .int .i64 0]] w (ReP rb a m cap xs (vFrame w.heap.size) (strsD 22 true ys) w) := by
 have HLT := Lib.hid hlt
 have HR := Lib.hid hr
 have hlm : m ≤ 1000000 := hr.small
 have hrb := hr.k.lt
 have b1 : bits .and .u64 23 1 = 1 := by decide +kernel
 have b2 : bits .andNot .u64 23 1 = 22 := by decide +kernel
 clear hr hlt
 go_enter Try.func53, Try.ntmps53
 go_upto_region 2 with fail
 refine wp_named ?_
 intro w0 hw0
 have HR0 : Hid (Re w0 rb a m cap xs p ys) := Lib.hid (by rw [← hw0]; exact HR.out.same (((Keeps.refl _ _).alloc _).alloc _))
 have HK0 : Hid (Keeps (fun k => k = rb) w w0) := Lib.hid (by rw [← hw0]; exact ((Keeps.refl _ _).alloc _).alloc _)
 have HZ0 : Hid (Blk w0 (w.heap.size + 1) #[.int .u64 0, .int .u64 0, .int .u64 0, .bool false, .int .u64 0, .int .u64 0, .int .u64 0, .slice none 0 0, .slice none 0 0, .bool false, .bool false, .int .i64 0] 32) := Lib.hid (by rw [← hw0]; have h := Blk.new (w.alloc (.cells #[.int .u64 23, .int .u64 0, .int .u64 0, .bool false, .int .u64 0, .int .u64 0, .int .u64 0, .slice none 0 0, .slice none 0 0, .bool false, .bool false, .int .i64 0] 32 (0, 0))) #[.int .u64 0, .int .u64 0, .int .u64 0, .bool false, .int .u64 0, .int .u64 0, .int .u64 0, .slice none 0 0, .slice none 0 0, .bool false, .bool false, .int .i64 0] 32; rwa [World.size_alloc] at h)
 have HL0 : Hid (Blk w0 w.heap.size #[.int .u64 23, .int .u64 0, .int .u64 0, .bool false, .int .u64 0, .int .u64 0, .int .u64 0, .slice none 0 0, .slice none 0 0, .bool false, .bool false, .int .i64 0] 32) := Lib.hid (by rw [← hw0]; exact (Blk.new w _ _).alloc _)
 obtain ⟨rs, hrs⟩ : ∃ rs, w.heap.size + 1 = rs := ⟨_, rfl⟩
 have HRS : Hid (w.heap.size ≤ rs) := Lib.hid (by omega)
 have HNZ : Hid (¬ rs = rb) := Lib.hid (by omega)
 rw [hrs] at HZ0 ⊢
 obtain ⟨fb, hfb⟩ : ∃ fb, w.heap.size = fb := ⟨_, rfl⟩
 have HFB : Hid (rs ≠ fb ∧ w.heap.size ≤ fb) := Lib.hid (by omega)
 have HNL : Hid (¬ fb = rb) := Lib.hid (by omega)
 rw [hfb] at HL0 ⊢
 clear hw0 hrb HR hrs hfb
 have x9 : w0.cell? ⟨fb, 9, none⟩ = some (.bool false) := HL0.out.cell 9
 have y9 : w0.frozen? ⟨fb, 9, none⟩ = false := HL0.out.free 9
 go_wp2_with fail
 clear x9 y9
 refine calls_named ?_
 intro w1 hw1
 have HR1 : Hid (Re w1 rb a m cap xs p ys) := Lib.hid (by rw [← hw1]; exact HR0.out.keep ((Keeps.refl (fun k => k = fb) w0).put 9 (.bool true)) (fun h => HNL.out h.symm) (fun b hb h => by have := HLT.out b hb; have := HFB.out.2; omega))
 have HK1 : Hid (Keeps (fun k => k = rb) w w1) := Lib.hid (by rw [← hw1]; exact (HK0.out.setCell (p := ⟨fb, 9, none⟩) (fun h => absurd h (by have := HFB.out.2; dsimp only; omega)) (.bool true)))
 have HZ1 : Hid (Blk w1 rs #[.int .u64 0, .int .u64 0, .int .u64 0, .bool false, .int .u64 0, .int .u64 0, .int .u64 0, .slice none 0 0, .slice none 0 0, .bool false, .bool false, .int .i64 0] 32) := Lib.hid (by rw [← hw1]; exact ((Keeps.refl (fun k => k = fb) w0).put 9 (.bool true)).blk HZ0.out HFB.out.1)
 have HL1 : Hid (Blk w1 fb #[.int .u64 23, .int .u64 0, .int .u64 0, .bool false, .int .u64 0, .int .u64 0, .int .u64 0, .slice none 0 0, .slice none 0 0, .bool true, .bool false, .int .i64 0] 32) := Lib.hid (by rw [← hw1]; exact (HL0.out.set 9 (.bool true)).as rfl)
 clear hw1
 clear HR0 HK0 HZ0 HL0
 refine (num_any rb a m cap xs p ys w1 HR1.out).mono ?_
 rintro e w2 ⟨hk, hr⟩
 have HK2 := Lib.hid (HK1.out.trans hk)
 have HZ2 := Lib.hid (hk.blk HZ1.out HNZ.out)
 have HL2 := Lib.hid (hk.blk HL1.out HNL.out)
 have HSZ2 : Hid (w1.heap.size ≤ w2.heap.size) := Lib.hid hk.size
 clear hk
 cases hq1 : pn ys with
 | none =>
  rw [hq1] at hr
  have hr' : e = .panicked [{ v := stopV, recovered := false }] := hr
  subst hr'
  have HQ1 := Lib.hid hq1
  clear hr hq1
  have HD : Hid (strsD 22 true ys = none) := Lib.hid (by unfold strsD; simp only [pb, HQ1.out, Bool.false_eq_true, if_false, if_true, ite_true, ite_false])
  go_wp2_with fail
  refine ⟨rfl, ?_⟩
  rw [HD.out]
  exact ReP.panic HK2.out
 | some x =>
  obtain ⟨v1, ys1⟩ := x
  rw [hq1] at hr
  obtain ⟨p1, val, rfl, rfl, hr⟩ := hr
  have hbd := pn_bd hq1
  have HU1 : Hid (inU v1) := Lib.hid ⟨hbd.1, by omega⟩
  have HV1 : Hid (0 ≤ v1 ∧ v1 ≤ 4611686018427387903) := Lib.hid ⟨hbd.1, hbd.2.1⟩
  have HQ1 := Lib.hid hq1
  have HR2 := Lib.hid hr
  clear hr hq1 hbd
  clear HR1 HK1 HZ1 HL1
  have x0 : w2.cell? ⟨fb, 0, none⟩ = some (.int .u64 23) := HL2.out.cell 0
  have x4 : w2.cell? ⟨fb, 4, none⟩ = some (.int .u64 0) := HL2.out.cell 4
  have y0 : w2.frozen? ⟨fb, 0, none⟩ = false := HL2.out.free 0
  have y4 : w2.frozen? ⟨fb, 4, none⟩ = false := HL2.out.free 4
  go_upto_region 16 with fail
  clear x0 y0 x4 y4
  refine wp_named ?_
  intro w3 hw3
  have HR3 : Hid (Re w3 rb a m cap xs p1 ys1) := Lib.hid (by rw [← hw3]; exact HR2.out.keep (((Keeps.refl (fun k => k = fb) w2).put 0 (.int .u64 22)).put 4 (.int .u64 v1)) (fun h => HNL.out h.symm) (fun b hb h => by have := HLT.out b hb; have := HFB.out.2; omega))
  have HK3 : Hid (Keeps (fun k => k = rb) w w3) := Lib.hid (by rw [← hw3]; exact ((HK2.out.setCell (p := ⟨fb, 0, none⟩) (fun h => absurd h (by have := HFB.out.2; dsimp only; omega)) (.int .u64 22)).setCell (p := ⟨fb, 4, none⟩) (fun h => absurd h (by have := HFB.out.2; dsimp only; omega)) (.int .u64 v1)))
  have HZ3 : Hid (Blk w3 rs #[.int .u64 0, .int .u64 0, .int .u64 0, .bool false, .int .u64 0, .int .u64 0, .int .u64 0, .slice none 0 0, .slice none 0 0, .bool false, .bool false, .int .i64 0] 32) := Lib.hid (by rw [← hw3]; exact (((Keeps.refl (fun k => k = fb) w2).put 0 (.int .u64 22)).put 4 (.int .u64 v1)).blk HZ2.out HFB.out.1)
  have HL3 : Hid (Blk w3 fb #[.int .u64 22, .int .u64 0, .int .u64 0, .bool false, .int .u64 v1, .int .u64 0, .int .u64 0, .slice none 0 0, .slice none 0 0, .bool true, .bool false, .int .i64 0] 32) := Lib.hid (by rw [← hw3]; exact ((HL2.out.set 0 (.int .u64 22)).set 4 (.int .u64 v1)).as rfl)
  clear hw3
  clear HR2 HK2 HZ2 HL2
  have x4 : w3.cell? ⟨fb, 4, none⟩ = some (.int .u64 v1) := HL3.out.cell 4
  by_cases hm : v1 ≤ 1152921504606846976
  ·have HM := Lib.hid hm
   have hmd : decide (v1 ≤ 1152921504606846976) = true := decide_eq_true hm
   clear hm
   go_wp2_with fail
   refine (must_ok _).mono ?_
   rintro e w99 ⟨rfl, rfl⟩
   clear hmd x4
   go_upto_region 34 with fail
   have HD : Hid (strsD 22 true ys = some (⟨22, 0, 0, false, v1, 0, 0, [], [], true, false, 0⟩, ys1)) := Lib.hid (by unfold strsD; simp only [pb, HQ1.out, Bool.false_eq_true, if_false, if_true, ite_true, ite_false, if_pos HM.out])
   obtain ⟨x0, x1, x2, x3, x4, x5, x6, x7, x8, x9, x10, x11⟩ := q12_cells HL3.out
   obtain ⟨t0, t1, t2, t3, t4, t5, t6, t7, t8, t9, t10, t11⟩ := q12_cells HZ3.out
   obtain ⟨z0, z1, z2, z3, z4, z5, z6, z7, z8, z9, z10, z11⟩ := q12_free HZ3.out
   go_wp2_with fail
   refine bodyPost_ret (v := ?_) ?_ (by kernel_rfl) ?_
   rotate_left
   ·exact other_results _ _ rs (by kernel_rfl) (qs_blk HZ3.out _ _ _ _ _ _ _ _ _ _ _ _)
   refine ⟨qs_keep HK3.out (fun h => absurd h (by have := HRS.out; omega)) _ _ _ _ _ _ _ _ _ _ _ _, ?_⟩
   rw [HD.out]
   refine ⟨p1, _, rfl, ⟨_, ?_, rfl, Qn.plain _ _ _ _ _ _ _ _ _ _ _ _ ⟨by omega, by omega⟩ inU_0 inU_0 HU1.out inU_0 inU_0 inU_0 (by omega)⟩, HR3.out.keep (qs_keep (S := fun k => k = rs) (Keeps.refl _ _) (fun _ => rfl) _ _ _ _ _ _ _ _ _ _ _ _) (fun h => HNZ.out h.symm) (fun b hb h => by have h1 := HLT.out b hb; have h2 := HRS.out; omega)⟩
   rfl
  ·have HM := Lib.hid hm
   have hmd : decide (v1 ≤ 1152921504606846976) = false := decide_eq_false hm
   clear hm
   go_wp2_with fail
   refine (must_no _).mono ?_
   rintro e w99 ⟨rfl, rfl⟩
   clear hmd x4
   have HD : Hid (strsD 22 true ys = none) := Lib.hid (by unfold strsD; simp only [pb, HQ1.out, Bool.false_eq_true, if_false, if_true, ite_true, ite_false, if_neg (show ¬ v1 ≤ 1152921504606846976 from by have := HM.out; omega)])
   go_wp2_with fail
   refine ⟨rfl, ?_⟩
   rw [HD.out]
   exact ReP.panic HK3.out

set_option maxRecDepth 100000 in
set_option maxHeartbeats 3200000 in
theorem other_25r (rb : Nat) (a : Option Addr) (m cap : Nat) (xs : List UInt8) (p : Nat) (ys : List UInt8) (w : World) (hr : Re w rb a m cap xs p ys) (hlt : ∀ b, a.map (·.block) = some b → b < w.heap.size) :
  Calls Try.prog 53 #[.pointer (some ⟨rb, 0, none⟩), .agg #[.int .u64 25, .int .u64 0, .int .u64 0, .bool false, .int .u64 0, .int .u64 0, .int .u64 0, .slice none 0 0, .slice none 0 0, .bool false, .bool false, .int .i64 0]] w (ReP rb a m cap xs (vFrame w.heap.size) (retD ys) w) := by
 have HLT := Lib.hid hlt
 have HR := Lib.hid hr
 have hlm : m ≤ 1000000 := hr.small
 have hrb := hr.k.lt
 clear hr hlt
 go_enter Try.func53, Try.ntmps53
 go_upto_region 2 with fail
 refine wp_named ?_
 intro w0 hw0
 have HR0 : Hid (Re w0 rb a m cap xs p ys) := Lib.hid (by rw [← hw0]; exact HR.out.same (((Keeps.refl _ _).alloc _).alloc _))
 have HK0 : Hid (Keeps (fun k => k = rb) w w0) := Lib.hid (by rw [← hw0]; exact ((Keeps.refl _ _).alloc _).alloc _)
 have HZ0 : Hid (Blk w0 (w.heap.size + 1) #[.int .u64 0, .int .u64 0, .int .u64 0, .bool false, .int .u64 0, .int .u64 0, .int .u64 0, .slice none 0 0, .slice none 0 0, .bool false, .bool false, .int .i64 0] 32) := Lib.hid (by rw [← hw0]; have h := Blk.new (w.alloc (.cells #[.int .u64 25, .int .u64 0, .int .u64 0, .bool false, .int .u64 0, .int .u64 0, .int .u64 0, .slice none 0 0, .slice none 0 0, .bool false, .bool false, .int .i64 0] 32 (0, 0))) #[.int .u64 0, .int .u64 0, .int .u64 0, .bool false, .int .u64 0, .int .u64 0, .int .u64 0, .slice none 0 0, .slice none 0 0, .bool false, .bool false, .int .i64 0] 32; rwa [World.size_alloc] at h)
 have HL0 : Hid (Blk w0 w.heap.size #[.int .u64 25, .int .u64 0, .int .u64 0, .bool false, .int .u64 0, .int .u64 0, .int .u64 0, .slice none 0 0, .slice none 0 0, .bool false, .bool false, .int .i64 0] 32) := Lib.hid (by rw [← hw0]; exact (Blk.new w _ _).alloc _)
 obtain ⟨rs, hrs⟩ : ∃ rs, w.heap.size + 1 = rs := ⟨_, rfl⟩
 have HRS : Hid (w.heap.size ≤ rs) := Lib.hid (by omega)
 have HNZ : Hid (¬ rs = rb) := Lib.hid (by omega)
 rw [hrs] at HZ0 ⊢
 obtain ⟨fb, hfb⟩ : ∃ fb, w.heap.size = fb := ⟨_, rfl⟩
 have HFB : Hid (rs ≠ fb ∧ w.heap.size ≤ fb) := Lib.hid (by omega)
 have HNL : Hid (¬ fb = rb) := Lib.hid (by omega)
 rw [hfb] at HL0 ⊢
 clear hw0 hrb HR hrs hfb
 go_wp2_with fail
 refine (num_any rb a m cap xs p ys w0 HR0.out).mono ?_
 rintro e w1 ⟨hk, hr⟩
 have HK1 := Lib.hid (HK0.out.trans hk)
 have HZ1 := Lib.hid (hk.blk HZ0.out HNZ.out)
 have HL1 := Lib.hid (hk.blk HL0.out HNL.out)
 have HSZ1 : Hid (w0.heap.size ≤ w1.heap.size) := Lib.hid hk.size
 clear hk
 cases hq1 : pn ys with
 | none =>
  rw [hq1] at hr
  have hr' : e = .panicked [{ v := stopV, recovered := false }] := hr
  subst hr'
  have HQ1 := Lib.hid hq1
  clear hr hq1
  have HD : Hid (retD ys = none) := Lib.hid (by unfold retD; simp only [pb, HQ1.out, Bool.false_eq_true, if_false, if_true, ite_true, ite_false])
  go_wp2_with fail
  refine ⟨rfl, ?_⟩
  rw [HD.out]
  exact ReP.panic HK1.out
 | some x =>
  obtain ⟨v1, ys1⟩ := x
  rw [hq1] at hr
  obtain ⟨p1, val, rfl, rfl, hr⟩ := hr
  have hbd := pn_bd hq1
  have HU1 : Hid (inU v1) := Lib.hid ⟨hbd.1, by omega⟩
  have HV1 : Hid (0 ≤ v1 ∧ v1 ≤ 4611686018427387903) := Lib.hid ⟨hbd.1, hbd.2.1⟩
  have HQ1 := Lib.hid hq1
  have HR1 := Lib.hid hr
  clear hr hq1 hbd
  clear HR0 HK0 HZ0 HL0
  have x1 : w1.cell? ⟨fb, 1, none⟩ = some (.int .u64 0) := HL1.out.cell 1
  have y1 : w1.frozen? ⟨fb, 1, none⟩ = false := HL1.out.free 1
  go_upto_region 34 with fail
  clear x1 y1
  refine wp_named ?_
  intro w2 hw2
  have HR2 : Hid (Re w2 rb a m cap xs p1 ys1) := Lib.hid (by rw [← hw2]; exact HR1.out.keep ((Keeps.refl (fun k => k = fb) w1).put 1 (.int .u64 v1)) (fun h => HNL.out h.symm) (fun b hb h => by have := HLT.out b hb; have := HFB.out.2; omega))
  have HK2 : Hid (Keeps (fun k => k = rb) w w2) := Lib.hid (by rw [← hw2]; exact (HK1.out.setCell (p := ⟨fb, 1, none⟩) (fun h => absurd h (by have := HFB.out.2; dsimp only; omega)) (.int .u64 v1)))
  have HZ2 : Hid (Blk w2 rs #[.int .u64 0, .int .u64 0, .int .u64 0, .bool false, .int .u64 0, .int .u64 0, .int .u64 0, .slice none 0 0, .slice none 0 0, .bool false, .bool false, .int .i64 0] 32) := Lib.hid (by rw [← hw2]; exact ((Keeps.refl (fun k => k = fb) w1).put 1 (.int .u64 v1)).blk HZ1.out HFB.out.1)
  have HL2 : Hid (Blk w2 fb #[.int .u64 25, .int .u64 v1, .int .u64 0, .bool false, .int .u64 0, .int .u64 0, .int .u64 0, .slice none 0 0, .slice none 0 0, .bool false, .bool false, .int .i64 0] 32) := Lib.hid (by rw [← hw2]; exact (HL1.out.set 1 (.int .u64 v1)).as rfl)
  clear hw2
  clear HR1 HK1 HZ1 HL1
  have HD : Hid (retD ys = some (⟨25, v1, 0, false, 0, 0, 0, [], [], false, false, 0⟩, ys1)) := Lib.hid (by unfold retD; simp only [pb, HQ1.out, Bool.false_eq_true, if_false, if_true, ite_true, ite_false])
  obtain ⟨x0, x1, x2, x3, x4, x5, x6, x7, x8, x9, x10, x11⟩ := q12_cells HL2.out
  obtain ⟨t0, t1, t2, t3, t4, t5, t6, t7, t8, t9, t10, t11⟩ := q12_cells HZ2.out
  obtain ⟨z0, z1, z2, z3, z4, z5, z6, z7, z8, z9, z10, z11⟩ := q12_free HZ2.out
  go_wp2_with fail
  refine bodyPost_ret (v := ?_) ?_ (by kernel_rfl) ?_
  rotate_left
  ·exact other_results _ _ rs (by kernel_rfl) (qs_blk HZ2.out _ _ _ _ _ _ _ _ _ _ _ _)
  refine ⟨qs_keep HK2.out (fun h => absurd h (by have := HRS.out; omega)) _ _ _ _ _ _ _ _ _ _ _ _, ?_⟩
  rw [HD.out]
  refine ⟨p1, _, rfl, ⟨_, ?_, rfl, Qn.plain _ _ _ _ _ _ _ _ _ _ _ _ ⟨by omega, by omega⟩ HU1.out inU_0 inU_0 inU_0 inU_0 inU_0 (by omega)⟩, HR2.out.keep (qs_keep (S := fun k => k = rs) (Keeps.refl _ _) (fun _ => rfl) _ _ _ _ _ _ _ _ _ _ _ _) (fun h => HNZ.out h.symm) (fun b hb h => by have h1 := HLT.out b hb; have h2 := HRS.out; omega)⟩
  rfl

set_option maxRecDepth 100000 in
set_option maxHeartbeats 3200000 in
theorem other_26r (rb : Nat) (a : Option Addr) (m cap : Nat) (xs : List UInt8) (p : Nat) (ys : List UInt8) (w : World) (hr : Re w rb a m cap xs p ys) (hlt : ∀ b, a.map (·.block) = some b → b < w.heap.size) :
  Calls Try.prog 53 #[.pointer (some ⟨rb, 0, none⟩), .agg #[.int .u64 26, .int .u64 0, .int .u64 0, .bool false, .int .u64 0, .int .u64 0, .int .u64 0, .slice none 0 0, .slice none 0 0, .bool false, .bool false, .int .i64 0]] w (ReP rb a m cap xs (vFrame w.heap.size) (chaD 26 ys) w) := by
 have HLT := Lib.hid hlt
 have HR := Lib.hid hr
 have hlm : m ≤ 1000000 := hr.small
 have hrb := hr.k.lt
 clear hr hlt
 go_enter Try.func53, Try.ntmps53
 go_upto_region 2 with fail
 refine wp_named ?_
 intro w0 hw0
 have HR0 : Hid (Re w0 rb a m cap xs p ys) := Lib.hid (by rw [← hw0]; exact HR.out.same (((Keeps.refl _ _).alloc _).alloc _))
 have HK0 : Hid (Keeps (fun k => k = rb) w w0) := Lib.hid (by rw [← hw0]; exact ((Keeps.refl _ _).alloc _).alloc _)
 have HZ0 : Hid (Blk w0 (w.heap.size + 1) #[.int .u64 0, .int .u64 0, .int .u64 0, .bool false, .int .u64 0, .int .u64 0, .int .u64 0, .slice none 0 0, .slice none 0 0, .bool false, .bool false, .int .i64 0] 32) := Lib.hid (by rw [← hw0]; have h := Blk.new (w.alloc (.cells #[.int .u64 26, .int .u64 0, .int .u64 0, .bool false, .int .u64 0, .int .u64 0, .int .u64 0, .slice none 0 0, .slice none 0 0, .bool false, .bool false, .int .i64 0] 32 (0, 0))) #[.int .u64 0, .int .u64 0, .int .u64 0, .bool false, .int .u64 0, .int .u64 0, .int .u64 0, .slice none 0 0, .slice none 0 0, .bool false, .bool false, .int .i64 0] 32; rwa [World.size_alloc] at h)
 have HL0 : Hid (Blk w0 w.heap.size #[.int .u64 26, .int .u64 0, .int .u64 0, .bool false, .int .u64 0, .int .u64 0, .int .u64 0, .slice none 0 0, .slice none 0 0, .bool false, .bool false, .int .i64 0] 32) := Lib.hid (by rw [← hw0]; exact (Blk.new w _ _).alloc _)
 obtain ⟨rs, hrs⟩ : ∃ rs, w.heap.size + 1 = rs := ⟨_, rfl⟩
 have HRS : Hid (w.heap.size ≤ rs) := Lib.hid (by omega)
 have HNZ : Hid (¬ rs = rb) := Lib.hid (by omega)
 rw [hrs] at HZ0 ⊢
 obtain ⟨fb, hfb⟩ : ∃ fb, w.heap.size = fb := ⟨_, rfl⟩
 have HFB : Hid (rs ≠ fb ∧ w.heap.size ≤ fb) := Lib.hid (by omega)
 have HNL : Hid (¬ fb = rb) := Lib.hid (by omega)
 rw [hfb] at HL0 ⊢
 clear hw0 hrb HR hrs hfb
 go_wp2_with fail
 refine (take_any rb a m cap xs p 8 ys w0 HR0.out (by omega)).mono ?_
 rintro e w1 ⟨hk, hr⟩
 have HK1 := Lib.hid (HK0.out.trans hk)
 have HZ1 := Lib.hid (hk.blk HZ0.out HNZ.out)
 have HL1 := Lib.hid (hk.blk HL0.out HNL.out)
 have HSZ1 : Hid (w0.heap.size ≤ w1.heap.size) := Lib.hid hk.size
 clear hk
 cases hq1 : ptk 8 ys with
 | none =>
  rw [hq1] at hr
  have hr' : e = .panicked [{ v := stopV, recovered := false }] := hr
  subst hr'
  have HQ1 := Lib.hid hq1
  clear hr hq1
  have HD : Hid (chaD 26 ys = none) := Lib.hid (by unfold chaD; simp only [pb, HQ1.out, Bool.false_eq_true, if_false, if_true, ite_true, ite_false])
  go_wp2_with fail
  refine ⟨rfl, ?_⟩
  rw [HD.out]
  exact ReP.panic HK1.out
 | some x =>
  obtain ⟨bs, ys1⟩ := x
  rw [hq1] at hr
  obtain ⟨p1, val, rfl, ⟨a8, n8, c8, rfl, ho⟩, hr⟩ := hr
  have HQ1 := Lib.hid hq1
  have HR1 := Lib.hid hr
  have HO1 : Hid (Bo w0.heap.size w1 a8 n8 c8 bs) := Lib.hid ho
  have HOB : Hid (fb < w0.heap.size) := Lib.hid HL0.out.lt
  have HRB : Hid (rb < w0.heap.size) := Lib.hid HR0.out.k.lt
  have HOW : Hid (w.heap.size ≤ w0.heap.size) := Lib.hid HK0.out.size
  have HOR : Hid (rs < w0.heap.size) := Lib.hid HZ0.out.lt
  have HBL : Hid (bs.length ≤ 1000000) := Lib.hid (by have h1 := ptk_bd hq1; have h2 := HR0.out.len; omega)
  clear hr hq1 ho
  clear HR0 HK0 HZ0 HL0
  have x8 : w1.cell? ⟨fb, 8, none⟩ = some (.slice none 0 0) := HL1.out.cell 8
  have y8 : w1.frozen? ⟨fb, 8, none⟩ = false := HL1.out.free 8
  go_upto_region 34 with fail
  clear x8 y8
  refine wp_named ?_
  intro w2 hw2
  have HR2 : Hid (Re w2 rb a m cap xs p1 ys1) := Lib.hid (by rw [← hw2]; exact HR1.out.keep ((Keeps.refl (fun k => k = fb) w1).put 8 (.slice a8 n8 c8)) (fun h => HNL.out h.symm) (fun b hb h => by have := HLT.out b hb; have := HFB.out.2; omega))
  have HK2 : Hid (Keeps (fun k => k = rb) w w2) := Lib.hid (by rw [← hw2]; exact (HK1.out.setCell (p := ⟨fb, 8, none⟩) (fun h => absurd h (by have := HFB.out.2; dsimp only; omega)) (.slice a8 n8 c8)))
  have HZ2 : Hid (Blk w2 rs #[.int .u64 0, .int .u64 0, .int .u64 0, .bool false, .int .u64 0, .int .u64 0, .int .u64 0, .slice none 0 0, .slice none 0 0, .bool false, .bool false, .int .i64 0] 32) := Lib.hid (by rw [← hw2]; exact ((Keeps.refl (fun k => k = fb) w1).put 8 (.slice a8 n8 c8)).blk HZ1.out HFB.out.1)
  have HL2 : Hid (Blk w2 fb #[.int .u64 26, .int .u64 0, .int .u64 0, .bool false, .int .u64 0, .int .u64 0, .int .u64 0, .slice none 0 0, .slice a8 n8 c8, .bool false, .bool false, .int .i64 0] 32) := Lib.hid (by rw [← hw2]; exact (HL1.out.set 8 (.slice a8 n8 c8)).as rfl)
  have HO2 : Hid (Bo w0.heap.size w2 a8 n8 c8 bs) := Lib.hid (by rw [← hw2]; exact HO1.out.keep ((Keeps.refl (fun k => k = fb) w1).put 8 (.slice a8 n8 c8)) (fun b hb h => by have h1 := (HO1.out.ge b hb).1; have h2 := HOB.out; omega))
  clear hw2
  clear HR1 HK1 HZ1 HL1 HO1
  have HD : Hid (chaD 26 ys = some (⟨26, 0, 0, false, 0, 0, 0, [], bs, false, false, 0⟩, ys1)) := Lib.hid (by unfold chaD; simp only [pb, HQ1.out, Bool.false_eq_true, if_false, if_true, ite_true, ite_false])
  obtain ⟨x0, x1, x2, x3, x4, x5, x6, x7, x8, x9, x10, x11⟩ := q12_cells HL2.out
  obtain ⟨t0, t1, t2, t3, t4, t5, t6, t7, t8, t9, t10, t11⟩ := q12_cells HZ2.out
  obtain ⟨z0, z1, z2, z3, z4, z5, z6, z7, z8, z9, z10, z11⟩ := q12_free HZ2.out
  go_wp2_with fail
  refine bodyPost_ret (v := ?_) ?_ (by kernel_rfl) ?_
  rotate_left
  ·exact other_results _ _ rs (by kernel_rfl) (qs_blk HZ2.out _ _ _ _ _ _ _ _ _ _ _ _)
  refine ⟨qs_keep HK2.out (fun h => absurd h (by have := HRS.out; omega)) _ _ _ _ _ _ _ _ _ _ _ _, ?_⟩
  rw [HD.out]
  refine ⟨p1, _, rfl, ⟨_, ?_, rfl, Qn.bytes _ _ _ _ _ _ _ _ _ _ ⟨by omega, by omega⟩ inU_0 inU_0 inU_0 inU_0 _ _ _ _ ((HO2.out.keep (qs_keep (S := fun k => k = rs) (Keeps.refl _ _) (fun _ => rfl) _ _ _ _ _ _ _ _ _ _ _ _) (fun b hb h => by have h1 := (HO2.out.ge b hb).1; have h2 := HOR.out; omega)).mono HOW.out)⟩, HR2.out.keep (qs_keep (S := fun k => k = rs) (Keeps.refl _ _) (fun _ => rfl) _ _ _ _ _ _ _ _ _ _ _ _) (fun h => HNZ.out h.symm) (fun b hb h => by have h1 := HLT.out b hb; have h2 := HRS.out; omega)⟩
  rfl

set_option maxRecDepth 100000 in
set_option maxHeartbeats 3200000 in
theorem other_27r (rb : Nat) (a : Option Addr) (m cap : Nat) (xs : List UInt8) (p : Nat) (ys : List UInt8) (w : World) (hr : Re w rb a m cap xs p ys) (hlt : ∀ b, a.map (·.block) = some b → b < w.heap.size) :
  Calls Try.prog 53 #[.pointer (some ⟨rb, 0, none⟩), .agg #[.int .u64 27, .int .u64 0, .int .u64 0, .bool false, .int .u64 0, .int .u64 0, .int .u64 0, .slice none 0 0, .slice none 0 0, .bool false, .bool false, .int .i64 0]] w (ReP rb a m cap xs (vFrame w.heap.size) (chaD 27 ys) w) := by
 have HLT := Lib.hid hlt
 have HR := Lib.hid hr
 have hlm : m ≤ 1000000 := hr.small
 have hrb := hr.k.lt
 clear hr hlt
 go_enter Try.func53, Try.ntmps53
 go_upto_region 2 with fail
 refine wp_named ?_
 intro w0 hw0
 have HR0 : Hid (Re w0 rb a m cap xs p ys) := Lib.hid (by rw [← hw0]; exact HR.out.same (((Keeps.refl _ _).alloc _).alloc _))
 have HK0 : Hid (Keeps (fun k => k = rb) w w0) := Lib.hid (by rw [← hw0]; exact ((Keeps.refl _ _).alloc _).alloc _)
 have HZ0 : Hid (Blk w0 (w.heap.size + 1) #[.int .u64 0, .int .u64 0, .int .u64 0, .bool false, .int .u64 0, .int .u64 0, .int .u64 0, .slice none 0 0, .slice none 0 0, .bool false, .bool false, .int .i64 0] 32) := Lib.hid (by rw [← hw0]; have h := Blk.new (w.alloc (.cells #[.int .u64 27, .int .u64 0, .int .u64 0, .bool false, .int .u64 0, .int .u64 0, .int .u64 0, .slice none 0 0, .slice none 0 0, .bool false, .bool false, .int .i64 0] 32 (0, 0))) #[.int .u64 0, .int .u64 0, .int .u64 0, .bool false, .int .u64 0, .int .u64 0, .int .u64 0, .slice none 0 0, .slice none 0 0, .bool false, .bool false, .int .i64 0] 32; rwa [World.size_alloc] at h)
 have HL0 : Hid (Blk w0 w.heap.size #[.int .u64 27, .int .u64 0, .int .u64 0, .bool false, .int .u64 0, .int .u64 0, .int .u64 0, .slice none 0 0, .slice none 0 0, .bool false, .bool false, .int .i64 0] 32) := Lib.hid (by rw [← hw0]; exact (Blk.new w _ _).alloc _)
 obtain ⟨rs, hrs⟩ : ∃ rs, w.heap.size + 1 = rs := ⟨_, rfl⟩
 have HRS : Hid (w.heap.size ≤ rs) := Lib.hid (by omega)
 have HNZ : Hid (¬ rs = rb) := Lib.hid (by omega)
 rw [hrs] at HZ0 ⊢
 obtain ⟨fb, hfb⟩ : ∃ fb, w.heap.size = fb := ⟨_, rfl⟩
 have HFB : Hid (rs ≠ fb ∧ w.heap.size ≤ fb) := Lib.hid (by omega)
 have HNL : Hid (¬ fb = rb) := Lib.hid (by omega)
 rw [hfb] at HL0 ⊢
 clear hw0 hrb HR hrs hfb
 go_wp2_with fail
 refine (take_any rb a m cap xs p 8 ys w0 HR0.out (by omega)).mono ?_
 rintro e w1 ⟨hk, hr⟩
 have HK1 := Lib.hid (HK0.out.trans hk)
 have HZ1 := Lib.hid (hk.blk HZ0.out HNZ.out)
 have HL1 := Lib.hid (hk.blk HL0.out HNL.out)
 have HSZ1 : Hid (w0.heap.size ≤ w1.heap.size) := Lib.hid hk.size
 clear hk
 cases hq1 : ptk 8 ys with
 | none =>
  rw [hq1] at hr
  have hr' : e = .panicked [{ v := stopV, recovered := false }] := hr
  subst hr'
  have HQ1 := Lib.hid hq1
  clear hr hq1
  have HD : Hid (chaD 27 ys = none) := Lib.hid (by unfold chaD; simp only [pb, HQ1.out, Bool.false_eq_true, if_false, if_true, ite_true, ite_false])
  go_wp2_with fail
  refine ⟨rfl, ?_⟩
  rw [HD.out]
  exact ReP.panic HK1.out
 | some x =>
  obtain ⟨bs, ys1⟩ := x
  rw [hq1] at hr
  obtain ⟨p1, val, rfl, ⟨a8, n8, c8, rfl, ho⟩, hr⟩ := hr
  have HQ1 := Lib.hid hq1
  have HR1 := Lib.hid hr
  have HO1 : Hid (Bo w0.heap.size w1 a8 n8 c8 bs) := Lib.hid ho
  have HOB : Hid (fb < w0.heap.size) := Lib.hid HL0.out.lt
  have HRB : Hid (rb < w0.heap.size) := Lib.hid HR0.out.k.lt
  have HOW : Hid (w.heap.size ≤ w0.heap.size) := Lib.hid HK0.out.size
  have HOR : Hid (rs < w0.heap.size) := Lib.hid HZ0.out.lt
  have HBL : Hid (bs.length ≤ 1000000) := Lib.hid (by have h1 := ptk_bd hq1; have h2 := HR0.out.len; omega)
  clear hr hq1 ho
  clear HR0 HK0 HZ0 HL0
  have x8 : w1.cell? ⟨fb, 8, none⟩ = some (.slice none 0 0) := HL1.out.cell 8
  have y8 : w1.frozen? ⟨fb, 8, none⟩ = false := HL1.out.free 8
  go_upto_region 34 with fail
  clear x8 y8
  refine wp_named ?_
  intro w2 hw2
  have HR2 : Hid (Re w2 rb a m cap xs p1 ys1) := Lib.hid (by rw [← hw2]; exact HR1.out.keep ((Keeps.refl (fun k => k = fb) w1).put 8 (.slice a8 n8 c8)) (fun h => HNL.out h.symm) (fun b hb h => by have := HLT.out b hb; have := HFB.out.2; omega))
  have HK2 : Hid (Keeps (fun k => k = rb) w w2) := Lib.hid (by rw [← hw2]; exact (HK1.out.setCell (p := ⟨fb, 8, none⟩) (fun h => absurd h (by have := HFB.out.2; dsimp only; omega)) (.slice a8 n8 c8)))
  have HZ2 : Hid (Blk w2 rs #[.int .u64 0, .int .u64 0, .int .u64 0, .bool false, .int .u64 0, .int .u64 0, .int .u64 0, .slice none 0 0, .slice none 0 0, .bool false, .bool false, .int .i64 0] 32) := Lib.hid (by rw [← hw2]; exact ((Keeps.refl (fun k => k = fb) w1).put 8 (.slice a8 n8 c8)).blk HZ1.out HFB.out.1)
  have HL2 : Hid (Blk w2 fb #[.int .u64 27, .int .u64 0, .int .u64 0, .bool false, .int .u64 0, .int .u64 0, .int .u64 0, .slice none 0 0, .slice a8 n8 c8, .bool false, .bool false, .int .i64 0] 32) := Lib.hid (by rw [← hw2]; exact (HL1.out.set 8 (.slice a8 n8 c8)).as rfl)
  have HO2 : Hid (Bo w0.heap.size w2 a8 n8 c8 bs) := Lib.hid (by rw [← hw2]; exact HO1.out.keep ((Keeps.refl (fun k => k = fb) w1).put 8 (.slice a8 n8 c8)) (fun b hb h => by have h1 := (HO1.out.ge b hb).1; have h2 := HOB.out; omega))
  clear hw2
  clear HR1 HK1 HZ1 HL1 HO1
  have HD : Hid (chaD 27 ys = some (⟨27, 0, 0, false, 0, 0, 0, [], bs, false, false, 0⟩, ys1)) := Lib.hid (by unfold chaD; simp only [pb, HQ1.out, Bool.false_eq_true, if_false, if_true, ite_true, ite_false])
  obtain ⟨x0, x1, x2, x3, x4, x5, x6, x7, x8, x9, x10, x11⟩ := q12_cells HL2.out
  obtain ⟨t0, t1, t2, t3, t4, t5, t6, t7, t8, t9, t10, t11⟩ := q12_cells HZ2.out
  obtain ⟨z0, z1, z2, z3, z4, z5, z6, z7, z8, z9, z10, z11⟩ := q12_free HZ2.out
  go_wp2_with fail
  refine bodyPost_ret (v := ?_) ?_ (by kernel_rfl) ?_
  rotate_left
  ·exact other_results _ _ rs (by kernel_rfl) (qs_blk HZ2.out _ _ _ _ _ _ _ _ _ _ _ _)
  refine ⟨qs_keep HK2.out (fun h => absurd h (by have := HRS.out; omega)) _ _ _ _ _ _ _ _ _ _ _ _, ?_⟩
  rw [HD.out]
  refine ⟨p1, _, rfl, ⟨_, ?_, rfl, Qn.bytes _ _ _ _ _ _ _ _ _ _ ⟨by omega, by omega⟩ inU_0 inU_0 inU_0 inU_0 _ _ _ _ ((HO2.out.keep (qs_keep (S := fun k => k = rs) (Keeps.refl _ _) (fun _ => rfl) _ _ _ _ _ _ _ _ _ _ _ _) (fun b hb h => by have h1 := (HO2.out.ge b hb).1; have h2 := HOR.out; omega)).mono HOW.out)⟩, HR2.out.keep (qs_keep (S := fun k => k = rs) (Keeps.refl _ _) (fun _ => rfl) _ _ _ _ _ _ _ _ _ _ _ _) (fun h => HNZ.out h.symm) (fun b hb h => by have h1 := HLT.out b hb; have h2 := HRS.out; omega)⟩
  rfl

set_option maxRecDepth 100000 in
set_option maxHeartbeats 3200000 in
theorem other_28r (rb : Nat) (a : Option Addr) (m cap : Nat) (xs : List UInt8) (p : Nat) (ys : List UInt8) (w : World) (hr : Re w rb a m cap xs p ys) (hlt : ∀ b, a.map (·.block) = some b → b < w.heap.size) :
  Calls Try.prog 53 #[.pointer (some ⟨rb, 0, none⟩), .agg #[.int .u64 28, .int .u64 0, .int .u64 0, .bool false, .int .u64 0, .int .u64 0, .int .u64 0, .slice none 0 0, .slice none 0 0, .bool false, .bool false, .int .i64 0]] w (ReP rb a m cap xs (vFrame w.heap.size) (cloD false ys) w) := by
 have HLT := Lib.hid hlt
 have HR := Lib.hid hr
 have hlm : m ≤ 1000000 := hr.small
 have hrb := hr.k.lt
 have b1 : bits .and .u64 28 1 = 0 := by decide +kernel
 clear hr hlt
 go_enter Try.func53, Try.ntmps53
 go_upto_region 2 with fail
 refine wp_named ?_
 intro w0 hw0
 have HR0 : Hid (Re w0 rb a m cap xs p ys) := Lib.hid (by rw [← hw0]; exact HR.out.same (((Keeps.refl _ _).alloc _).alloc _))
 have HK0 : Hid (Keeps (fun k => k = rb) w w0) := Lib.hid (by rw [← hw0]; exact ((Keeps.refl _ _).alloc _).alloc _)
 have HZ0 : Hid (Blk w0 (w.heap.size + 1) #[.int .u64 0, .int .u64 0, .int .u64 0, .bool false, .int .u64 0, .int .u64 0, .int .u64 0, .slice none 0 0, .slice none 0 0, .bool false, .bool false, .int .i64 0] 32) := Lib.hid (by rw [← hw0]; have h := Blk.new (w.alloc (.cells #[.int .u64 28, .int .u64 0, .int .u64 0, .bool false, .int .u64 0, .int .u64 0, .int .u64 0, .slice none 0 0, .slice none 0 0, .bool false, .bool false, .int .i64 0] 32 (0, 0))) #[.int .u64 0, .int .u64 0, .int .u64 0, .bool false, .int .u64 0, .int .u64 0, .int .u64 0, .slice none 0 0, .slice none 0 0, .bool false, .bool false, .int .i64 0] 32; rwa [World.size_alloc] at h)
 have HL0 : Hid (Blk w0 w.heap.size #[.int .u64 28, .int .u64 0, .int .u64 0, .bool false, .int .u64 0, .int .u64 0, .int .u64 0, .slice none 0 0, .slice none 0 0, .bool false, .bool false, .int .i64 0] 32) := Lib.hid (by rw [← hw0]; exact (Blk.new w _ _).alloc _)
 obtain ⟨rs, hrs⟩ : ∃ rs, w.heap.size + 1 = rs := ⟨_, rfl⟩
 have HRS : Hid (w.heap.size ≤ rs) := Lib.hid (by omega)
 have HNZ : Hid (¬ rs = rb) := Lib.hid (by omega)
 rw [hrs] at HZ0 ⊢
 obtain ⟨fb, hfb⟩ : ∃ fb, w.heap.size = fb := ⟨_, rfl⟩
 have HFB : Hid (rs ≠ fb ∧ w.heap.size ≤ fb) := Lib.hid (by omega)
 have HNL : Hid (¬ fb = rb) := Lib.hid (by omega)
 rw [hfb] at HL0 ⊢
 clear hw0 hrb HR hrs hfb
 have x10 : w0.cell? ⟨fb, 10, none⟩ = some (.bool false) := HL0.out.cell 10
 have y10 : w0.frozen? ⟨fb, 10, none⟩ = false := HL0.out.free 10
 go_wp2_with fail
 clear x10 y10
 refine calls_named ?_
 intro w1 hw1
 have HR1 : Hid (Re w1 rb a m cap xs p ys) := Lib.hid (by rw [← hw1]; exact HR0.out.keep ((Keeps.refl (fun k => k = fb) w0).put 10 (.bool false)) (fun h => HNL.out h.symm) (fun b hb h => by have := HLT.out b hb; have := HFB.out.2; omega))
 have HK1 : Hid (Keeps (fun k => k = rb) w w1) := Lib.hid (by rw [← hw1]; exact (HK0.out.setCell (p := ⟨fb, 10, none⟩) (fun h => absurd h (by have := HFB.out.2; dsimp only; omega)) (.bool false)))
 have HZ1 : Hid (Blk w1 rs #[.int .u64 0, .int .u64 0, .int .u64 0, .bool false, .int .u64 0, .int .u64 0, .int .u64 0, .slice none 0 0, .slice none 0 0, .bool false, .bool false, .int .i64 0] 32) := Lib.hid (by rw [← hw1]; exact ((Keeps.refl (fun k => k = fb) w0).put 10 (.bool false)).blk HZ0.out HFB.out.1)
 have HL1 : Hid (Blk w1 fb #[.int .u64 28, .int .u64 0, .int .u64 0, .bool false, .int .u64 0, .int .u64 0, .int .u64 0, .slice none 0 0, .slice none 0 0, .bool false, .bool false, .int .i64 0] 32) := Lib.hid (by rw [← hw1]; exact (HL0.out.set 10 (.bool false)).as rfl)
 clear hw1
 clear HR0 HK0 HZ0 HL0
 refine (num_any rb a m cap xs p ys w1 HR1.out).mono ?_
 rintro e w2 ⟨hk, hr⟩
 have HK2 := Lib.hid (HK1.out.trans hk)
 have HZ2 := Lib.hid (hk.blk HZ1.out HNZ.out)
 have HL2 := Lib.hid (hk.blk HL1.out HNL.out)
 have HSZ2 : Hid (w1.heap.size ≤ w2.heap.size) := Lib.hid hk.size
 clear hk
 cases hq1 : pn ys with
 | none =>
  rw [hq1] at hr
  have hr' : e = .panicked [{ v := stopV, recovered := false }] := hr
  subst hr'
  have HQ1 := Lib.hid hq1
  clear hr hq1
  have HD : Hid (cloD false ys = none) := Lib.hid (by unfold cloD; simp only [pb, HQ1.out, Bool.false_eq_true, if_false, if_true, ite_true, ite_false])
  go_wp2_with fail
  refine ⟨rfl, ?_⟩
  rw [HD.out]
  exact ReP.panic HK2.out
 | some x =>
  obtain ⟨v1, ys1⟩ := x
  rw [hq1] at hr
  obtain ⟨p1, val, rfl, rfl, hr⟩ := hr
  have hbd := pn_bd hq1
  have HU1 : Hid (inU v1) := Lib.hid ⟨hbd.1, by omega⟩
  have HV1 : Hid (0 ≤ v1 ∧ v1 ≤ 4611686018427387903) := Lib.hid ⟨hbd.1, hbd.2.1⟩
  have HQ1 := Lib.hid hq1
  have HR2 := Lib.hid hr
  clear hr hq1 hbd
  clear HR1 HK1 HZ1 HL1
  have x0 : w2.cell? ⟨fb, 0, none⟩ = some (.int .u64 28) := HL2.out.cell 0
  have x5 : w2.cell? ⟨fb, 5, none⟩ = some (.int .u64 0) := HL2.out.cell 5
  have x10 : w2.cell? ⟨fb, 10, none⟩ = some (.bool false) := HL2.out.cell 10
  have y0 : w2.frozen? ⟨fb, 0, none⟩ = false := HL2.out.free 0
  have y5 : w2.frozen? ⟨fb, 5, none⟩ = false := HL2.out.free 5
  go_wp2_with fail
  clear x0 y0 x5 y5 x10
  refine calls_named ?_
  intro w3 hw3
  have HR3 : Hid (Re w3 rb a m cap xs p1 ys1) := Lib.hid (by rw [← hw3]; exact HR2.out.keep (((Keeps.refl (fun k => k = fb) w2).put 0 (.int .u64 28)).put 5 (.int .u64 v1)) (fun h => HNL.out h.symm) (fun b hb h => by have := HLT.out b hb; have := HFB.out.2; omega))
  have HK3 : Hid (Keeps (fun k => k = rb) w w3) := Lib.hid (by rw [← hw3]; exact ((HK2.out.setCell (p := ⟨fb, 0, none⟩) (fun h => absurd h (by have := HFB.out.2; dsimp only; omega)) (.int .u64 28)).setCell (p := ⟨fb, 5, none⟩) (fun h => absurd h (by have := HFB.out.2; dsimp only; omega)) (.int .u64 v1)))
  have HZ3 : Hid (Blk w3 rs #[.int .u64 0, .int .u64 0, .int .u64 0, .bool false, .int .u64 0, .int .u64 0, .int .u64 0, .slice none 0 0, .slice none 0 0, .bool false, .bool false, .int .i64 0] 32) := Lib.hid (by rw [← hw3]; exact (((Keeps.refl (fun k => k = fb) w2).put 0 (.int .u64 28)).put 5 (.int .u64 v1)).blk HZ2.out HFB.out.1)
  have HL3 : Hid (Blk w3 fb #[.int .u64 28, .int .u64 0, .int .u64 0, .bool false, .int .u64 0, .int .u64 v1, .int .u64 0, .slice none 0 0, .slice none 0 0, .bool false, .bool false, .int .i64 0] 32) := Lib.hid (by rw [← hw3]; exact ((HL2.out.set 0 (.int .u64 28)).set 5 (.int .u64 v1)).as rfl)
  clear hw3
  clear HR2 HK2 HZ2 HL2
  refine (num_any rb a m cap xs p1 ys1 w3 HR3.out).mono ?_
  rintro e w4 ⟨hk, hr⟩
  have HK4 := Lib.hid (HK3.out.trans hk)
  have HZ4 := Lib.hid (hk.blk HZ3.out HNZ.out)
  have HL4 := Lib.hid (hk.blk HL3.out HNL.out)
  have HSZ4 : Hid (w3.heap.size ≤ w4.heap.size) := Lib.hid hk.size
  clear hk
  cases hq2 : pn ys1 with
  | none =>
   rw [hq2] at hr
   have hr' : e = .panicked [{ v := stopV, recovered := false }] := hr
   subst hr'
   have HQ2 := Lib.hid hq2
   clear hr hq2
   have HD : Hid (cloD false ys = none) := Lib.hid (by unfold cloD; simp only [pb, HQ1.out, HQ2.out, Bool.false_eq_true, if_false, if_true, ite_true, ite_false])
   go_wp2_with fail
   refine ⟨rfl, ?_⟩
   rw [HD.out]
   exact ReP.panic HK4.out
  | some x =>
   obtain ⟨v2, ys2⟩ := x
   rw [hq2] at hr
   obtain ⟨p2, val, rfl, rfl, hr⟩ := hr
   have hbd := pn_bd hq2
   have HU2 : Hid (inU v2) := Lib.hid ⟨hbd.1, by omega⟩
   have HV2 : Hid (0 ≤ v2 ∧ v2 ≤ 4611686018427387903) := Lib.hid ⟨hbd.1, hbd.2.1⟩
   have HQ2 := Lib.hid hq2
   have HR4 := Lib.hid hr
   clear hr hq2 hbd
   clear HR3 HK3 HZ3 HL3
   have x2 : w4.cell? ⟨fb, 2, none⟩ = some (.int .u64 0) := HL4.out.cell 2
   have y2 : w4.frozen? ⟨fb, 2, none⟩ = false := HL4.out.free 2
   go_wp2_with fail
   clear x2 y2
   refine calls_named ?_
   intro w5 hw5
   have HR5 : Hid (Re w5 rb a m cap xs p2 ys2) := Lib.hid (by rw [← hw5]; exact HR4.out.keep ((Keeps.refl (fun k => k = fb) w4).put 2 (.int .u64 v2)) (fun h => HNL.out h.symm) (fun b hb h => by have := HLT.out b hb; have := HFB.out.2; omega))
   have HK5 : Hid (Keeps (fun k => k = rb) w w5) := Lib.hid (by rw [← hw5]; exact (HK4.out.setCell (p := ⟨fb, 2, none⟩) (fun h => absurd h (by have := HFB.out.2; dsimp only; omega)) (.int .u64 v2)))
   have HZ5 : Hid (Blk w5 rs #[.int .u64 0, .int .u64 0, .int .u64 0, .bool false, .int .u64 0, .int .u64 0, .int .u64 0, .slice none 0 0, .slice none 0 0, .bool false, .bool false, .int .i64 0] 32) := Lib.hid (by rw [← hw5]; exact ((Keeps.refl (fun k => k = fb) w4).put 2 (.int .u64 v2)).blk HZ4.out HFB.out.1)
   have HL5 : Hid (Blk w5 fb #[.int .u64 28, .int .u64 0, .int .u64 v2, .bool false, .int .u64 0, .int .u64 v1, .int .u64 0, .slice none 0 0, .slice none 0 0, .bool false, .bool false, .int .i64 0] 32) := Lib.hid (by rw [← hw5]; exact (HL4.out.set 2 (.int .u64 v2)).as rfl)
   clear hw5
   clear HR4 HK4 HZ4 HL4
   refine (rtext_any rb a m cap xs p2 ys2 w5 HR5.out).mono ?_
   rintro e w6 ⟨hk, hr⟩
   have HK6 := Lib.hid (HK5.out.trans hk)
   have HZ6 := Lib.hid (hk.blk HZ5.out HNZ.out)
   have HL6 := Lib.hid (hk.blk HL5.out HNL.out)
   have HSZ6 : Hid (w5.heap.size ≤ w6.heap.size) := Lib.hid hk.size
   clear hk
   cases hq3 : ptx ys2 with
   | none =>
    rw [hq3] at hr
    have hr' : e = .panicked [{ v := stopV, recovered := false }] := hr
    subst hr'
    have HQ3 := Lib.hid hq3
    clear hr hq3
    have HD : Hid (cloD false ys = none) := Lib.hid (by unfold cloD; simp only [pb, HQ1.out, HQ2.out, HQ3.out, Bool.false_eq_true, if_false, if_true, ite_true, ite_false])
    go_wp2_with fail
    refine ⟨rfl, ?_⟩
    rw [HD.out]
    exact ReP.panic HK6.out
   | some x =>
    obtain ⟨bs, ys3⟩ := x
    rw [hq3] at hr
    obtain ⟨p3, val, rfl, ⟨a8, n8, c8, rfl, ho⟩, hr⟩ := hr
    have HQ3 := Lib.hid hq3
    have HR6 := Lib.hid hr
    have HO6 : Hid (Bo w5.heap.size w6 a8 n8 c8 bs) := Lib.hid ho
    have HOB : Hid (fb < w5.heap.size) := Lib.hid HL5.out.lt
    have HRB : Hid (rb < w5.heap.size) := Lib.hid HR5.out.k.lt
    have HOW : Hid (w.heap.size ≤ w5.heap.size) := Lib.hid HK5.out.size
    have HOR : Hid (rs < w5.heap.size) := Lib.hid HZ5.out.lt
    have HBL : Hid (bs.length ≤ 1000000) := Lib.hid (by have h1 := ptx_bd hq3; have h2 := HR5.out.len; omega)
    clear hr hq3 ho
    clear HR5 HK5 HZ5 HL5
    have x8 : w6.cell? ⟨fb, 8, none⟩ = some (.slice none 0 0) := HL6.out.cell 8
    have y8 : w6.frozen? ⟨fb, 8, none⟩ = false := HL6.out.free 8
    go_upto_region 34 with fail
    clear x8 y8
    refine wp_named ?_
    intro w7 hw7
    have HR7 : Hid (Re w7 rb a m cap xs p3 ys3) := Lib.hid (by rw [← hw7]; exact HR6.out.keep ((Keeps.refl (fun k => k = fb) w6).put 8 (.slice a8 n8 c8)) (fun h => HNL.out h.symm) (fun b hb h => by have := HLT.out b hb; have := HFB.out.2; omega))
    have HK7 : Hid (Keeps (fun k => k = rb) w w7) := Lib.hid (by rw [← hw7]; exact (HK6.out.setCell (p := ⟨fb, 8, none⟩) (fun h => absurd h (by have := HFB.out.2; dsimp only; omega)) (.slice a8 n8 c8)))
    have HZ7 : Hid (Blk w7 rs #[.int .u64 0, .int .u64 0, .int .u64 0, .bool false, .int .u64 0, .int .u64 0, .int .u64 0, .slice none 0 0, .slice none 0 0, .bool false, .bool false, .int .i64 0] 32) := Lib.hid (by rw [← hw7]; exact ((Keeps.refl (fun k => k = fb) w6).put 8 (.slice a8 n8 c8)).blk HZ6.out HFB.out.1)
    have HL7 : Hid (Blk w7 fb #[.int .u64 28, .int .u64 0, .int .u64 v2, .bool false, .int .u64 0, .int .u64 v1, .int .u64 0, .slice none 0 0, .slice a8 n8 c8, .bool false, .bool false, .int .i64 0] 32) := Lib.hid (by rw [← hw7]; exact (HL6.out.set 8 (.slice a8 n8 c8)).as rfl)
    have HO7 : Hid (Bo w5.heap.size w7 a8 n8 c8 bs) := Lib.hid (by rw [← hw7]; exact HO6.out.keep ((Keeps.refl (fun k => k = fb) w6).put 8 (.slice a8 n8 c8)) (fun b hb h => by have h1 := (HO6.out.ge b hb).1; have h2 := HOB.out; omega))
    clear hw7
    clear HR6 HK6 HZ6 HL6 HO6
    have HD : Hid (cloD false ys = some (⟨28, 0, v2, false, 0, v1, 0, [], bs, false, false, 0⟩, ys3)) := Lib.hid (by unfold cloD; simp only [pb, HQ1.out, HQ2.out, HQ3.out, Bool.false_eq_true, if_false, if_true, ite_true, ite_false])
    obtain ⟨x0, x1, x2, x3, x4, x5, x6, x7, x8, x9, x10, x11⟩ := q12_cells HL7.out
    obtain ⟨t0, t1, t2, t3, t4, t5, t6, t7, t8, t9, t10, t11⟩ := q12_cells HZ7.out
    obtain ⟨z0, z1, z2, z3, z4, z5, z6, z7, z8, z9, z10, z11⟩ := q12_free HZ7.out
    go_wp2_with fail
    refine bodyPost_ret (v := ?_) ?_ (by kernel_rfl) ?_
    rotate_left
    ·exact other_results _ _ rs (by kernel_rfl) (qs_blk HZ7.out _ _ _ _ _ _ _ _ _ _ _ _)
    refine ⟨qs_keep HK7.out (fun h => absurd h (by have := HRS.out; omega)) _ _ _ _ _ _ _ _ _ _ _ _, ?_⟩
    rw [HD.out]
    refine ⟨p3, _, rfl, ⟨_, ?_, rfl, Qn.bytes _ _ _ _ _ _ _ _ _ _ ⟨by omega, by omega⟩ inU_0 HU2.out inU_0 HU1.out _ _ _ _ ((HO7.out.keep (qs_keep (S := fun k => k = rs) (Keeps.refl _ _) (fun _ => rfl) _ _ _ _ _ _ _ _ _ _ _ _) (fun b hb h => by have h1 := (HO7.out.ge b hb).1; have h2 := HOR.out; omega)).mono HOW.out)⟩, HR7.out.keep (qs_keep (S := fun k => k = rs) (Keeps.refl _ _) (fun _ => rfl) _ _ _ _ _ _ _ _ _ _ _ _) (fun h => HNZ.out h.symm) (fun b hb h => by have h1 := HLT.out b hb; have h2 := HRS.out; omega)⟩
    rfl

set_option maxRecDepth 100000 in
set_option maxHeartbeats 3200000 in
theorem other_29r (rb : Nat) (a : Option Addr) (m cap : Nat) (xs : List UInt8) (p : Nat) (ys : List UInt8) (w : World) (hr : Re w rb a m cap xs p ys) (hlt : ∀ b, a.map (·.block) = some b → b < w.heap.size) :
  Calls Try.prog 53 #[.pointer (some ⟨rb, 0, none⟩), .agg #[.int .u64 29, .int .u64 0, .int .u64 0, .bool false, .int .u64 0, .int .u64 0, .int .u64 0, .slice none 0 0, .slice none 0 0, .bool false, .bool false, .int .i64 0]] w (ReP rb a m cap xs (vFrame w.heap.size) (cloD true ys) w) := by
 have HLT := Lib.hid hlt
 have HR := Lib.hid hr
 have hlm : m ≤ 1000000 := hr.small
 have hrb := hr.k.lt
 have b1 : bits .and .u64 29 1 = 1 := by decide +kernel
 clear hr hlt
 go_enter Try.func53, Try.ntmps53
 go_upto_region 2 with fail
 refine wp_named ?_
 intro w0 hw0
 have HR0 : Hid (Re w0 rb a m cap xs p ys) := Lib.hid (by rw [← hw0]; exact HR.out.same (((Keeps.refl _ _).alloc _).alloc _))
 have HK0 : Hid (Keeps (fun k => k = rb) w w0) := Lib.hid (by rw [← hw0]; exact ((Keeps.refl _ _).alloc _).alloc _)
 have HZ0 : Hid (Blk w0 (w.heap.size + 1) #[.int .u64 0, .int .u64 0, .int .u64 0, .bool false, .int .u64 0, .int .u64 0, .int .u64 0, .slice none 0 0, .slice none 0 0, .bool false, .bool false, .int .i64 0] 32) := Lib.hid (by rw [← hw0]; have h := Blk.new (w.alloc (.cells #[.int .u64 29, .int .u64 0, .int .u64 0, .bool false, .int .u64 0, .int .u64 0, .int .u64 0, .slice none 0 0, .slice none 0 0, .bool false, .bool false, .int .i64 0] 32 (0, 0))) #[.int .u64 0, .int .u64 0, .int .u64 0, .bool false, .int .u64 0, .int .u64 0, .int .u64 0, .slice none 0 0, .slice none 0 0, .bool false, .bool false, .int .i64 0] 32; rwa [World.size_alloc] at h)
 have HL0 : Hid (Blk w0 w.heap.size #[.int .u64 29, .int .u64 0, .int .u64 0, .bool false, .int .u64 0, .int .u64 0, .int .u64 0, .slice none 0 0, .slice none 0 0, .bool false, .bool false, .int .i64 0] 32) := Lib.hid (by rw [← hw0]; exact (Blk.new w _ _).alloc _)
 obtain ⟨rs, hrs⟩ : ∃ rs, w.heap.size + 1 = rs := ⟨_, rfl⟩
 have HRS : Hid (w.heap.size ≤ rs) := Lib.hid (by omega)
 have HNZ : Hid (¬ rs = rb) := Lib.hid (by omega)
 rw [hrs] at HZ0 ⊢
 obtain ⟨fb, hfb⟩ : ∃ fb, w.heap.size = fb := ⟨_, rfl⟩
 have HFB : Hid (rs ≠ fb ∧ w.heap.size ≤ fb) := Lib.hid (by omega)
 have HNL : Hid (¬ fb = rb) := Lib.hid (by omega)
 rw [hfb] at HL0 ⊢
 clear hw0 hrb HR hrs hfb
 have x10 : w0.cell? ⟨fb, 10, none⟩ = some (.bool false) := HL0.out.cell 10
 have y10 : w0.frozen? ⟨fb, 10, none⟩ = false := HL0.out.free 10
 go_wp2_with fail
 clear x10 y10
 refine calls_named ?_
 intro w1 hw1
 have HR1 : Hid (Re w1 rb a m cap xs p ys) := Lib.hid (by rw [← hw1]; exact HR0.out.keep ((Keeps.refl (fun k => k = fb) w0).put 10 (.bool true)) (fun h => HNL.out h.symm) (fun b hb h => by have := HLT.out b hb; have := HFB.out.2; omega))
 have HK1 : Hid (Keeps (fun k => k = rb) w w1) := Lib.hid (by rw [← hw1]; exact (HK0.out.setCell (p := ⟨fb, 10, none⟩) (fun h => absurd h (by have := HFB.out.2; dsimp only; omega)) (.bool true)))
 have HZ1 : Hid (Blk w1 rs #[.int .u64 0, .int .u64 0, .int .u64 0, .bool false, .int .u64 0, .int .u64 0, .int .u64 0, .slice none 0 0, .slice none 0 0, .bool false, .bool false, .int .i64 0] 32) := Lib.hid (by rw [← hw1]; exact ((Keeps.refl (fun k => k = fb) w0).put 10 (.bool true)).blk HZ0.out HFB.out.1)
 have HL1 : Hid (Blk w1 fb #[.int .u64 29, .int .u64 0, .int .u64 0, .bool false, .int .u64 0, .int .u64 0, .int .u64 0, .slice none 0 0, .slice none 0 0, .bool false, .bool true, .int .i64 0] 32) := Lib.hid (by rw [← hw1]; exact (HL0.out.set 10 (.bool true)).as rfl)
 clear hw1
 clear HR0 HK0 HZ0 HL0
 refine (num_any rb a m cap xs p ys w1 HR1.out).mono ?_
 rintro e w2 ⟨hk, hr⟩
 have HK2 := Lib.hid (HK1.out.trans hk)
 have HZ2 := Lib.hid (hk.blk HZ1.out HNZ.out)
 have HL2 := Lib.hid (hk.blk HL1.out HNL.out)
 have HSZ2 : Hid (w1.heap.size ≤ w2.heap.size) := Lib.hid hk.size
 clear hk
 cases hq1 : pn ys with
 | none =>
  rw [hq1] at hr
  have hr' : e = .panicked [{ v := stopV, recovered := false }] := hr
  subst hr'
  have HQ1 := Lib.hid hq1
  clear hr hq1
  have HD : Hid (cloD true ys = none) := Lib.hid (by unfold cloD; simp only [pb, HQ1.out, Bool.false_eq_true, if_false, if_true, ite_true, ite_false])
  go_wp2_with fail
  refine ⟨rfl, ?_⟩
  rw [HD.out]
  exact ReP.panic HK2.out
 | some x =>
  obtain ⟨v1, ys1⟩ := x
  rw [hq1] at hr
  obtain ⟨p1, val, rfl, rfl, hr⟩ := hr
  have hbd := pn_bd hq1
  have HU1 : Hid (inU v1) := Lib.hid ⟨hbd.1, by omega⟩
  have HV1 : Hid (0 ≤ v1 ∧ v1 ≤ 4611686018427387903) := Lib.hid ⟨hbd.1, hbd.2.1⟩
  have HQ1 := Lib.hid hq1
  have HR2 := Lib.hid hr
  clear hr hq1 hbd
  clear HR1 HK1 HZ1 HL1
  have x0 : w2.cell? ⟨fb, 0, none⟩ = some (.int .u64 29) := HL2.out.cell 0
  have x5 : w2.cell? ⟨fb, 5, none⟩ = some (.int .u64 0) := HL2.out.cell 5
  have x10 : w2.cell? ⟨fb, 10, none⟩ = some (.bool true) := HL2.out.cell 10
  have y0 : w2.frozen? ⟨fb, 0, none⟩ = false := HL2.out.free 0
  have y5 : w2.frozen? ⟨fb, 5, none⟩ = false := HL2.out.free 5
  go_wp2_with fail
  clear x0 y0 x5 y5 x10
  refine calls_named ?_
  intro w3 hw3
  have HR3 : Hid (Re w3 rb a m cap xs p1 ys1) := Lib.hid (by rw [← hw3]; exact HR2.out.keep (((Keeps.refl (fun k => k = fb) w2).put 0 (.int .u64 28)).put 5 (.int .u64 v1)) (fun h => HNL.out h.symm) (fun b hb h => by have := HLT.out b hb; have := HFB.out.2; omega))
  have HK3 : Hid (Keeps (fun k => k = rb) w w3) := Lib.hid (by rw [← hw3]; exact ((HK2.out.setCell (p := ⟨fb, 0, none⟩) (fun h => absurd h (by have := HFB.out.2; dsimp only; omega)) (.int .u64 28)).setCell (p := ⟨fb, 5, none⟩) (fun h => absurd h (by have := HFB.out.2; dsimp only; omega)) (.int .u64 v1)))
  have HZ3 : Hid (Blk w3 rs #[.int .u64 0, .int .u64 0, .int .u64 0, .bool false, .int .u64 0, .int .u64 0, .int .u64 0, .slice none 0 0, .slice none 0 0, .bool false, .bool false, .int .i64 0] 32) := Lib.hid (by rw [← hw3]; exact (((Keeps.refl (fun k => k = fb) w2).put 0 (.int .u64 28)).put 5 (.int .u64 v1)).blk HZ2.out HFB.out.1)
  have HL3 : Hid (Blk w3 fb #[.int .u64 28, .int .u64 0, .int .u64 0, .bool false, .int .u64 0, .int .u64 v1, .int .u64 0, .slice none 0 0, .slice none 0 0, .bool false, .bool true, .int .i64 0] 32) := Lib.hid (by rw [← hw3]; exact ((HL2.out.set 0 (.int .u64 28)).set 5 (.int .u64 v1)).as rfl)
  clear hw3
  clear HR2 HK2 HZ2 HL2
  refine (rtext_any rb a m cap xs p1 ys1 w3 HR3.out).mono ?_
  rintro e w4 ⟨hk, hr⟩
  have HK4 := Lib.hid (HK3.out.trans hk)
  have HZ4 := Lib.hid (hk.blk HZ3.out HNZ.out)
  have HL4 := Lib.hid (hk.blk HL3.out HNL.out)
  have HSZ4 : Hid (w3.heap.size ≤ w4.heap.size) := Lib.hid hk.size
  clear hk
  cases hq2 : ptx ys1 with
  | none =>
   rw [hq2] at hr
   have hr' : e = .panicked [{ v := stopV, recovered := false }] := hr
   subst hr'
   have HQ2 := Lib.hid hq2
   clear hr hq2
   have HD : Hid (cloD true ys = none) := Lib.hid (by unfold cloD; simp only [pb, HQ1.out, HQ2.out, Bool.false_eq_true, if_false, if_true, ite_true, ite_false])
   go_wp2_with fail
   refine ⟨rfl, ?_⟩
   rw [HD.out]
   exact ReP.panic HK4.out
  | some x =>
   obtain ⟨bs, ys2⟩ := x
   rw [hq2] at hr
   obtain ⟨p2, val, rfl, ⟨a8, n8, c8, rfl, ho⟩, hr⟩ := hr
   have HQ2 := Lib.hid hq2
   have HR4 := Lib.hid hr
   have HO4 : Hid (Bo w3.heap.size w4 a8 n8 c8 bs) := Lib.hid ho
   have HOB : Hid (fb < w3.heap.size) := Lib.hid HL3.out.lt
   have HRB : Hid (rb < w3.heap.size) := Lib.hid HR3.out.k.lt
   have HOW : Hid (w.heap.size ≤ w3.heap.size) := Lib.hid HK3.out.size
   have HOR : Hid (rs < w3.heap.size) := Lib.hid HZ3.out.lt
   have HBL : Hid (bs.length ≤ 1000000) := Lib.hid (by have h1 := ptx_bd hq2; have h2 := HR3.out.len; omega)
   clear hr hq2 ho
   clear HR3 HK3 HZ3 HL3
   have x8 : w4.cell? ⟨fb, 8, none⟩ = some (.slice none 0 0) := HL4.out.cell 8
   have y8 : w4.frozen? ⟨fb, 8, none⟩ = false := HL4.out.free 8
   go_upto_region 34 with fail
   clear x8 y8
   refine wp_named ?_
   intro w5 hw5
   have HR5 : Hid (Re w5 rb a m cap xs p2 ys2) := Lib.hid (by rw [← hw5]; exact HR4.out.keep ((Keeps.refl (fun k => k = fb) w4).put 8 (.slice a8 n8 c8)) (fun h => HNL.out h.symm) (fun b hb h => by have := HLT.out b hb; have := HFB.out.2; omega))
   have HK5 : Hid (Keeps (fun k => k = rb) w w5) := Lib.hid (by rw [← hw5]; exact (HK4.out.setCell (p := ⟨fb, 8, none⟩) (fun h => absurd h (by have := HFB.out.2; dsimp only; omega)) (.slice a8 n8 c8)))
   have HZ5 : Hid (Blk w5 rs #[.int .u64 0, .int .u64 0, .int .u64 0, .bool false, .int .u64 0, .int .u64 0, .int .u64 0, .slice none 0 0, .slice none 0 0, .bool false, .bool false, .int .i64 0] 32) := Lib.hid (by rw [← hw5]; exact ((Keeps.refl (fun k => k = fb) w4).put 8 (.slice a8 n8 c8)).blk HZ4.out HFB.out.1)
   have HL5 : Hid (Blk w5 fb #[.int .u64 28, .int .u64 0, .int .u64 0, .bool false, .int .u64 0, .int .u64 v1, .int .u64 0, .slice none 0 0, .slice a8 n8 c8, .bool false, .bool true, .int .i64 0] 32) := Lib.hid (by rw [← hw5]; exact (HL4.out.set 8 (.slice a8 n8 c8)).as rfl)
   have HO5 : Hid (Bo w3.heap.size w5 a8 n8 c8 bs) := Lib.hid (by rw [← hw5]; exact HO4.out.keep ((Keeps.refl (fun k => k = fb) w4).put 8 (.slice a8 n8 c8)) (fun b hb h => by have h1 := (HO4.out.ge b hb).1; have h2 := HOB.out; omega))
   clear hw5
   clear HR4 HK4 HZ4 HL4 HO4
   have HD : Hid (cloD true ys = some (⟨28, 0, 0, false, 0, v1, 0, [], bs, false, true, 0⟩, ys2)) := Lib.hid (by unfold cloD; simp only [pb, HQ1.out, HQ2.out, Bool.false_eq_true, if_false, if_true, ite_true, ite_false])
   obtain ⟨x0, x1, x2, x3, x4, x5, x6, x7, x8, x9, x10, x11⟩ := q12_cells HL5.out
   obtain ⟨t0, t1, t2, t3, t4, t5, t6, t7, t8, t9, t10, t11⟩ := q12_cells HZ5.out
   obtain ⟨z0, z1, z2, z3, z4, z5, z6, z7, z8, z9, z10, z11⟩ := q12_free HZ5.out
   go_wp2_with fail
   refine bodyPost_ret (v := ?_) ?_ (by kernel_rfl) ?_
   rotate_left
   ·exact other_results _ _ rs (by kernel_rfl) (qs_blk HZ5.out _ _ _ _ _ _ _ _ _ _ _ _)
   refine ⟨qs_keep HK5.out (fun h => absurd h (by have := HRS.out; omega)) _ _ _ _ _ _ _ _ _ _ _ _, ?_⟩
   rw [HD.out]
   refine ⟨p2, _, rfl, ⟨_, ?_, rfl, Qn.bytes _ _ _ _ _ _ _ _ _ _ ⟨by omega, by omega⟩ inU_0 inU_0 inU_0 HU1.out _ _ _ _ ((HO5.out.keep (qs_keep (S := fun k => k = rs) (Keeps.refl _ _) (fun _ => rfl) _ _ _ _ _ _ _ _ _ _ _ _) (fun b hb h => by have h1 := (HO5.out.ge b hb).1; have h2 := HOR.out; omega)).mono HOW.out)⟩, HR5.out.keep (qs_keep (S := fun k => k = rs) (Keeps.refl _ _) (fun _ => rfl) _ _ _ _ _ _ _ _ _ _ _ _) (fun h => HNZ.out h.symm) (fun b hb h => by have h1 := HLT.out b hb; have h2 := HRS.out; omega)⟩
   rfl

set_option maxRecDepth 100000 in
set_option maxHeartbeats 3200000 in
theorem other_24r (rb : Nat) (a : Option Addr) (m cap : Nat) (xs : List UInt8) (p : Nat) (ys : List UInt8) (w : World) (hr : Re w rb a m cap xs p ys) (hlt : ∀ b, a.map (·.block) = some b → b < w.heap.size) :
  Calls Try.prog 53 #[.pointer (some ⟨rb, 0, none⟩), .agg #[.int .u64 24, .int .u64 0, .int .u64 0, .bool false, .int .u64 0, .int .u64 0, .int .u64 0, .slice none 0 0, .slice none 0 0, .bool false, .bool false, .int .i64 0]] w (ReP rb a m cap xs (vFrame w.heap.size) (nidD ys) w) := by
 have HLT := Lib.hid hlt
 have HR := Lib.hid hr
 have hlm : m ≤ 1000000 := hr.small
 have hrb := hr.k.lt
 clear hr hlt
 go_enter Try.func53, Try.ntmps53
 go_upto_region 2 with fail
 refine wp_named ?_
 intro w0 hw0
 have HR0 : Hid (Re w0 rb a m cap xs p ys) := Lib.hid (by rw [← hw0]; exact HR.out.same (((Keeps.refl _ _).alloc _).alloc _))
 have HK0 : Hid (Keeps (fun k => k = rb) w w0) := Lib.hid (by rw [← hw0]; exact ((Keeps.refl _ _).alloc _).alloc _)
 have HZ0 : Hid (Blk w0 (w.heap.size + 1) #[.int .u64 0, .int .u64 0, .int .u64 0, .bool false, .int .u64 0, .int .u64 0, .int .u64 0, .slice none 0 0, .slice none 0 0, .bool false, .bool false, .int .i64 0] 32) := Lib.hid (by rw [← hw0]; have h := Blk.new (w.alloc (.cells #[.int .u64 24, .int .u64 0, .int .u64 0, .bool false, .int .u64 0, .int .u64 0, .int .u64 0, .slice none 0 0, .slice none 0 0, .bool false, .bool false, .int .i64 0] 32 (0, 0))) #[.int .u64 0, .int .u64 0, .int .u64 0, .bool false, .int .u64 0, .int .u64 0, .int .u64 0, .slice none 0 0, .slice none 0 0, .bool false, .bool false, .int .i64 0] 32; rwa [World.size_alloc] at h)
 have HL0 : Hid (Blk w0 w.heap.size #[.int .u64 24, .int .u64 0, .int .u64 0, .bool false, .int .u64 0, .int .u64 0, .int .u64 0, .slice none 0 0, .slice none 0 0, .bool false, .bool false, .int .i64 0] 32) := Lib.hid (by rw [← hw0]; exact (Blk.new w _ _).alloc _)
 obtain ⟨rs, hrs⟩ : ∃ rs, w.heap.size + 1 = rs := ⟨_, rfl⟩
 have HRS : Hid (w.heap.size ≤ rs) := Lib.hid (by omega)
 have HNZ : Hid (¬ rs = rb) := Lib.hid (by omega)
 rw [hrs] at HZ0 ⊢
 obtain ⟨fb, hfb⟩ : ∃ fb, w.heap.size = fb := ⟨_, rfl⟩
 have HFB : Hid (rs ≠ fb ∧ w.heap.size ≤ fb) := Lib.hid (by omega)
 have HNL : Hid (¬ fb = rb) := Lib.hid (by omega)
 rw [hfb] at HL0 ⊢
 clear hw0 hrb HR hrs hfb
 go_wp2_with fail
 refine (num_any rb a m cap xs p ys w0 HR0.out).mono ?_
 rintro e w1 ⟨hk, hr⟩
 have HK1 := Lib.hid (HK0.out.trans hk)
 have HZ1 := Lib.hid (hk.blk HZ0.out HNZ.out)
 have HL1 := Lib.hid (hk.blk HL0.out HNL.out)
 have HSZ1 : Hid (w0.heap.size ≤ w1.heap.size) := Lib.hid hk.size
 clear hk
 cases hq1 : pn ys with
 | none =>
  rw [hq1] at hr
  have hr' : e = .panicked [{ v := stopV, recovered := false }] := hr
  subst hr'
  have HQ1 := Lib.hid hq1
  clear hr hq1
  have HD : Hid (nidD ys = none) := Lib.hid (by unfold nidD; simp only [pb, HQ1.out, Bool.false_eq_true, if_false, if_true, ite_true, ite_false])
  go_wp2_with fail
  refine ⟨rfl, ?_⟩
  rw [HD.out]
  exact ReP.panic HK1.out
 | some x =>
  obtain ⟨v1, ys1⟩ := x
  rw [hq1] at hr
  obtain ⟨p1, val, rfl, rfl, hr⟩ := hr
  have hbd := pn_bd hq1
  have HU1 : Hid (inU v1) := Lib.hid ⟨hbd.1, by omega⟩
  have HV1 : Hid (0 ≤ v1 ∧ v1 ≤ 4611686018427387903) := Lib.hid ⟨hbd.1, hbd.2.1⟩
  have HQ1 := Lib.hid hq1
  have HR1 := Lib.hid hr
  clear hr hq1 hbd
  clear HR0 HK0 HZ0 HL0
  go_wp2_with fail
  refine (num_any rb a m cap xs p1 ys1 w1 HR1.out).mono ?_
  rintro e w2 ⟨hk, hr⟩
  have HK2 := Lib.hid (HK1.out.trans hk)
  have HZ2 := Lib.hid (hk.blk HZ1.out HNZ.out)
  have HL2 := Lib.hid (hk.blk HL1.out HNL.out)
  have HSZ2 : Hid (w1.heap.size ≤ w2.heap.size) := Lib.hid hk.size
  clear hk
  cases hq2 : pn ys1 with
  | none =>
   rw [hq2] at hr
   have hr' : e = .panicked [{ v := stopV, recovered := false }] := hr
   subst hr'
   have HQ2 := Lib.hid hq2
   clear hr hq2
   have HD : Hid (nidD ys = none) := Lib.hid (by unfold nidD; simp only [pb, HQ1.out, HQ2.out, Bool.false_eq_true, if_false, if_true, ite_true, ite_false])
   go_wp2_with fail
   refine ⟨rfl, ?_⟩
   rw [HD.out]
   exact ReP.panic HK2.out
  | some x =>
   obtain ⟨v2, ys2⟩ := x
   rw [hq2] at hr
   obtain ⟨p2, val, rfl, rfl, hr⟩ := hr
   have hbd := pn_bd hq2
   have HU2 : Hid (inU v2) := Lib.hid ⟨hbd.1, by omega⟩
   have HV2 : Hid (0 ≤ v2 ∧ v2 ≤ 4611686018427387903) := Lib.hid ⟨hbd.1, hbd.2.1⟩
   have HQ2 := Lib.hid hq2
   have HR2 := Lib.hid hr
   clear hr hq2 hbd
   clear HR1 HK1 HZ1 HL1
   have x1 : w2.cell? ⟨fb, 1, none⟩ = some (.int .u64 0) := HL2.out.cell 1
   have x4 : w2.cell? ⟨fb, 4, none⟩ = some (.int .u64 0) := HL2.out.cell 4
   have y1 : w2.frozen? ⟨fb, 1, none⟩ = false := HL2.out.free 1
   have y4 : w2.frozen? ⟨fb, 4, none⟩ = false := HL2.out.free 4
   go_upto_region 19 with fail
   clear x1 y1 x4 y4
   refine wp_named ?_
   intro w3 hw3
   have HR3 : Hid (Re w3 rb a m cap xs p2 ys2) := Lib.hid (by rw [← hw3]; exact HR2.out.keep (((Keeps.refl (fun k => k = fb) w2).put 1 (.int .u64 v1)).put 4 (.int .u64 v2)) (fun h => HNL.out h.symm) (fun b hb h => by have := HLT.out b hb; have := HFB.out.2; omega))
   have HK3 : Hid (Keeps (fun k => k = rb) w w3) := Lib.hid (by rw [← hw3]; exact ((HK2.out.setCell (p := ⟨fb, 1, none⟩) (fun h => absurd h (by have := HFB.out.2; dsimp only; omega)) (.int .u64 v1)).setCell (p := ⟨fb, 4, none⟩) (fun h => absurd h (by have := HFB.out.2; dsimp only; omega)) (.int .u64 v2)))
   have HZ3 : Hid (Blk w3 rs #[.int .u64 0, .int .u64 0, .int .u64 0, .bool false, .int .u64 0, .int .u64 0, .int .u64 0, .slice none 0 0, .slice none 0 0, .bool false, .bool false, .int .i64 0] 32) := Lib.hid (by rw [← hw3]; exact (((Keeps.refl (fun k => k = fb) w2).put 1 (.int .u64 v1)).put 4 (.int .u64 v2)).blk HZ2.out HFB.out.1)
   have HL3 : Hid (Blk w3 fb #[.int .u64 24, .int .u64 v1, .int .u64 0, .bool false, .int .u64 v2, .int .u64 0, .int .u64 0, .slice none 0 0, .slice none 0 0, .bool false, .bool false, .int .i64 0] 32) := Lib.hid (by rw [← hw3]; exact ((HL2.out.set 1 (.int .u64 v1)).set 4 (.int .u64 v2)).as rfl)
   clear hw3
   clear HR2 HK2 HZ2 HL2
   go_wp2_with fail
   refine (take_any rb a m cap xs p2 1 ys2 w3 HR3.out (by omega)).mono ?_
   rintro e w4 ⟨hk, hr⟩
   have HK4 := Lib.hid (HK3.out.trans hk)
   have HZ4 := Lib.hid (hk.blk HZ3.out HNZ.out)
   have HL4 := Lib.hid (hk.blk HL3.out HNL.out)
   have HSZ4 : Hid (w3.heap.size ≤ w4.heap.size) := Lib.hid hk.size
   clear hk
   cases hq3 : ptk 1 ys2 with
   | none =>
    rw [hq3] at hr
    have hr' : e = .panicked [{ v := stopV, recovered := false }] := hr
    subst hr'
    have HQ3 := Lib.hid hq3
    clear hr hq3
    have HD : Hid (nidD ys = none) := Lib.hid (by unfold nidD; simp only [pb, HQ1.out, HQ2.out, HQ3.out, Bool.false_eq_true, if_false, if_true, ite_true, ite_false])
    go_wp2_with fail
    refine ⟨rfl, ?_⟩
    rw [HD.out]
    exact ReP.panic HK4.out
   | some x =>
    obtain ⟨bs, ys3⟩ := x
    rw [hq3] at hr
    obtain ⟨p3, val, rfl, ⟨a8, n8, c8, rfl, ho⟩, hr⟩ := hr
    have HQ3 := Lib.hid hq3
    have HR4 := Lib.hid hr
    have HO4 : Hid (Bo w3.heap.size w4 a8 n8 c8 bs) := Lib.hid ho
    have HOB : Hid (fb < w3.heap.size) := Lib.hid HL3.out.lt
    have HRB : Hid (rb < w3.heap.size) := Lib.hid HR3.out.k.lt
    have HOW : Hid (w.heap.size ≤ w3.heap.size) := Lib.hid HK3.out.size
    have HOR : Hid (rs < w3.heap.size) := Lib.hid HZ3.out.lt
    have HBL : Hid (bs.length ≤ 1000000) := Lib.hid (by have h1 := ptk_bd hq3; have h2 := HR3.out.len; omega)
    clear hr hq3 ho
    clear HR3 HK3 HZ3 HL3
    have hn8 : n8 = 1 := by have h1 := (ptk_bd HQ3.out).1; have h2 := HO4.out.1; omega
    obtain ⟨g, rfl, hg0, hg1, hcell, hfree⟩ := HO4.out.row (by omega)
    obtain ⟨c, hc⟩ : ∃ c : UInt8, bs = [c] := List.length_eq_one_iff.1 (ptk_bd HQ3.out).1
    subst hc
    have e0 : w4.cell? ⟨g, 0, none⟩ = some (.int .u8 (c.toNat : Int)) := hcell 0 (by simp)
    obtain ⟨N, hN⟩ : ∃ N : Nat, c.toNat = N := ⟨_, rfl⟩
    have HN := Lib.hid hN
    have hN256 : N < 256 := by rw [← hN]; exact c.toNat_lt
    rw [hN] at e0
    subst hn8
    have hwu : IntKind.u64.wrap (N : Int) = (N : Int) := by rw [IntKind.wrap_u64]; omega
    obtain ⟨K, hK⟩ : ∃ K : Nat, (N : Int) + 16 = (K : Int) := ⟨N + 16, by omega⟩
    have HKN : Hid (N + 16 = K) := Lib.hid (by omega)
    have hK99 : K ≤ 1000 := by omega
    clear hcell hfree hg0 hg1 hN HO4 HOB HRB HOW HOR HBL
    have hwk : IntKind.u64.wrap (K : Int) = (K : Int) := by rw [IntKind.wrap_u64]; omega
    have x1 : w4.cell? ⟨fb, 1, none⟩ = some (.int .u64 v1) := HL4.out.cell 1
    have x4 : w4.cell? ⟨fb, 4, none⟩ = some (.int .u64 v2) := HL4.out.cell 4
    by_cases h1 : v2 ≤ v1
    rotate_left
    ·have HNO : Hid (nidOK v1 v2 N = false) := Lib.hid (by unfold nidOK; simp only [Bool.and_eq_false_iff, decide_eq_false_iff_not]; omega)
     have d1 : decide (v2 ≤ v1) = false := by simp; omega
     clear h1
     go_wp2_with fail
     refine (must_no _).mono ?_
     rintro e w99 ⟨rfl, rfl⟩
     clear x1 x4 e0
     have HD : Hid (nidD ys = none) := Lib.hid (by unfold nidD; simp only [pb, HQ1.out, HQ2.out, HQ3.out, List.headD_cons, HN.out, HNO.out, Bool.false_eq_true, if_false, if_true, ite_true, ite_false])
     go_wp2_with fail
     refine ⟨rfl, ?_⟩
     rw [HD.out]
     exact ReP.panic HK4.out
    by_cases h2 : 1 ≤ N
    rotate_left
    ·have HNO : Hid (nidOK v1 v2 N = false) := Lib.hid (by unfold nidOK; simp only [Bool.and_eq_false_iff, decide_eq_false_iff_not]; omega)
     have d1 : decide (v2 ≤ v1) = true := by simp; omega
     have d2 : decide ((1 : Int) ≤ (N : Int)) = false := by simp; omega
     clear h1 h2
     go_wp2_with fail
     refine (must_no _).mono ?_
     rintro e w99 ⟨rfl, rfl⟩
     clear x1 x4 e0
     have HD : Hid (nidD ys = none) := Lib.hid (by unfold nidD; simp only [pb, HQ1.out, HQ2.out, HQ3.out, List.headD_cons, HN.out, HNO.out, Bool.false_eq_true, if_false, if_true, ite_true, ite_false])
     go_wp2_with fail
     refine ⟨rfl, ?_⟩
     rw [HD.out]
     exact ReP.panic HK4.out
    by_cases h3 : N ≤ 20
    rotate_left
    ·have HNO : Hid (nidOK v1 v2 N = false) := Lib.hid (by unfold nidOK; simp only [Bool.and_eq_false_iff, decide_eq_false_iff_not]; omega)
     have d1 : decide (v2 ≤ v1) = true := by simp; omega
     have d2 : decide ((1 : Int) ≤ (N : Int)) = true := by simp; omega
     have d3 : decide ((N : Int) ≤ 20) = false := by simp; omega
     clear h1 h2 h3
     go_wp2_with fail
     refine (must_no _).mono ?_
     rintro e w99 ⟨rfl, rfl⟩
     clear x1 x4 e0
     have HD : Hid (nidD ys = none) := Lib.hid (by unfold nidD; simp only [pb, HQ1.out, HQ2.out, HQ3.out, List.headD_cons, HN.out, HNO.out, Bool.false_eq_true, if_false, if_true, ite_true, ite_false])
     go_wp2_with fail
     refine ⟨rfl, ?_⟩
     rw [HD.out]
     exact ReP.panic HK4.out
    have HNO : Hid (nidOK v1 v2 N = true) := Lib.hid (by unfold nidOK; simp; omega)
    have d1 : decide (v2 ≤ v1) = true := by simp; omega
    have d2 : decide ((1 : Int) ≤ (N : Int)) = true := by simp; omega
    have d3 : decide ((N : Int) ≤ 20) = true := by simp; omega
    clear h1 h2 h3
    go_wp2_with fail
    refine (must_ok _).mono ?_
    rintro e w99 ⟨rfl, rfl⟩
    clear x1 x4 e0 d1 d2 d3
    go_wp2_with fail
    refine (take_any rb a m cap xs p3 K ys3 w4 HR4.out (by omega)).mono ?_
    rintro e w5 ⟨hk, hr⟩
    have HK5 := Lib.hid (HK4.out.trans hk)
    have HZ5 := Lib.hid (hk.blk HZ4.out HNZ.out)
    have HL5 := Lib.hid (hk.blk HL4.out HNL.out)
    have HSZ5 : Hid (w4.heap.size ≤ w5.heap.size) := Lib.hid hk.size
    clear hk
    cases hq4 : ptk K ys3 with
    | none =>
     rw [hq4] at hr
     have hr' : e = .panicked [{ v := stopV, recovered := false }] := hr
     subst hr'
     have HQ4 := Lib.hid hq4
     clear hr hq4
     have HD : Hid (nidD ys = none) := Lib.hid (by unfold nidD; simp only [pb, HQ1.out, HQ2.out, HQ3.out, HQ4.out, List.headD_cons, HN.out, HNO.out, HKN.out, Bool.false_eq_true, if_false, if_true, ite_true, ite_false])
     go_wp2_with fail
     refine ⟨rfl, ?_⟩
     rw [HD.out]
     exact ReP.panic HK5.out
    | some x =>
     obtain ⟨bs, ys4⟩ := x
     rw [hq4] at hr
     obtain ⟨p4, val, rfl, ⟨a8, n8, c8, rfl, ho⟩, hr⟩ := hr
     have HQ4 := Lib.hid hq4
     have HR5 := Lib.hid hr
     have HO5 : Hid (Bo w4.heap.size w5 a8 n8 c8 bs) := Lib.hid ho
     have HOB : Hid (fb < w4.heap.size) := Lib.hid HL4.out.lt
     have HRB : Hid (rb < w4.heap.size) := Lib.hid HR4.out.k.lt
     have HOW : Hid (w.heap.size ≤ w4.heap.size) := Lib.hid HK4.out.size
     have HOR : Hid (rs < w4.heap.size) := Lib.hid HZ4.out.lt
     have HBL : Hid (bs.length ≤ 1000000) := Lib.hid (by have h1 := ptk_bd hq4; have h2 := HR4.out.len; omega)
     clear hr hq4 ho
     clear HR4 HK4 HZ4 HL4
     have x8 : w5.cell? ⟨fb, 8, none⟩ = some (.slice none 0 0) := HL5.out.cell 8
     have y8 : w5.frozen? ⟨fb, 8, none⟩ = false := HL5.out.free 8
     go_upto_region 34 with fail
     clear x8 y8
     refine wp_named ?_
     intro w6 hw6
     have HR6 : Hid (Re w6 rb a m cap xs p4 ys4) := Lib.hid (by rw [← hw6]; exact HR5.out.keep ((Keeps.refl (fun k => k = fb) w5).put 8 (.slice a8 n8 c8)) (fun h => HNL.out h.symm) (fun b hb h => by have := HLT.out b hb; have := HFB.out.2; omega))
     have HK6 : Hid (Keeps (fun k => k = rb) w w6) := Lib.hid (by rw [← hw6]; exact (HK5.out.setCell (p := ⟨fb, 8, none⟩) (fun h => absurd h (by have := HFB.out.2; dsimp only; omega)) (.slice a8 n8 c8)))
     have HZ6 : Hid (Blk w6 rs #[.int .u64 0, .int .u64 0, .int .u64 0, .bool false, .int .u64 0, .int .u64 0, .int .u64 0, .slice none 0 0, .slice none 0 0, .bool false, .bool false, .int .i64 0] 32) := Lib.hid (by rw [← hw6]; exact ((Keeps.refl (fun k => k = fb) w5).put 8 (.slice a8 n8 c8)).blk HZ5.out HFB.out.1)
     have HL6 : Hid (Blk w6 fb #[.int .u64 24, .int .u64 v1, .int .u64 0, .bool false, .int .u64 v2, .int .u64 0, .int .u64 0, .slice none 0 0, .slice a8 n8 c8, .bool false, .bool false, .int .i64 0] 32) := Lib.hid (by rw [← hw6]; exact (HL5.out.set 8 (.slice a8 n8 c8)).as rfl)
     have HO6 : Hid (Bo w4.heap.size w6 a8 n8 c8 bs) := Lib.hid (by rw [← hw6]; exact HO5.out.keep ((Keeps.refl (fun k => k = fb) w5).put 8 (.slice a8 n8 c8)) (fun b hb h => by have h1 := (HO5.out.ge b hb).1; have h2 := HOB.out; omega))
     clear hw6
     clear HR5 HK5 HZ5 HL5 HO5
     have HD : Hid (nidD ys = some (⟨24, v1, 0, false, v2, 0, 0, [], bs, false, false, 0⟩, ys4)) := Lib.hid (by unfold nidD; simp only [pb, HQ1.out, HQ2.out, HQ3.out, HQ4.out, List.headD_cons, HN.out, HNO.out, HKN.out, Bool.false_eq_true, if_false, if_true, ite_true, ite_false])
     obtain ⟨x0, x1, x2, x3, x4, x5, x6, x7, x8, x9, x10, x11⟩ := q12_cells HL6.out
     obtain ⟨t0, t1, t2, t3, t4, t5, t6, t7, t8, t9, t10, t11⟩ := q12_cells HZ6.out
     obtain ⟨z0, z1, z2, z3, z4, z5, z6, z7, z8, z9, z10, z11⟩ := q12_free HZ6.out
     go_wp2_with fail
     refine bodyPost_ret (v := ?_) ?_ (by kernel_rfl) ?_
     rotate_left
     ·exact other_results _ _ rs (by kernel_rfl) (qs_blk HZ6.out _ _ _ _ _ _ _ _ _ _ _ _)
     refine ⟨qs_keep HK6.out (fun h => absurd h (by have := HRS.out; omega)) _ _ _ _ _ _ _ _ _ _ _ _, ?_⟩
     rw [HD.out]
     refine ⟨p4, _, rfl, ⟨_, ?_, rfl, Qn.bytes _ _ _ _ _ _ _ _ _ _ ⟨by omega, by omega⟩ HU1.out inU_0 HU2.out inU_0 _ _ _ _ ((HO6.out.keep (qs_keep (S := fun k => k = rs) (Keeps.refl _ _) (fun _ => rfl) _ _ _ _ _ _ _ _ _ _ _ _) (fun b hb h => by have h1 := (HO6.out.ge b hb).1; have h2 := HOR.out; omega)).mono HOW.out)⟩, HR6.out.keep (qs_keep (S := fun k => k = rs) (Keeps.refl _ _) (fun _ => rfl) _ _ _ _ _ _ _ _ _ _ _ _) (fun h => HNZ.out h.symm) (fun b hb h => by have h1 := HLT.out b hb; have h2 := HRS.out; omega)⟩
     rfl

set_option maxRecDepth 100000 in
set_option maxHeartbeats 3200000 in
theorem other_nor (rb : Nat) (a : Option Addr) (m cap : Nat) (xs : List UInt8) (p : Nat) (ys : List UInt8) (t : Int) (w : World) (ht : t ∉ [16, 20, 17, 21, 18, 19, 22, 23, 24, 25, 26, 27, 28, 29]) (hr : Re w rb a m cap xs p ys) (hlt : ∀ b, a.map (·.block) = some b → b < w.heap.size) :
  Calls Try.prog 53 #[.pointer (some ⟨rb, 0, none⟩), .agg #[.int .u64 t, .int .u64 0, .int .u64 0, .bool false, .int .u64 0, .int .u64 0, .int .u64 0, .slice none 0 0, .slice none 0 0, .bool false, .bool false, .int .i64 0]] w (ReP rb a m cap xs (vFrame w.heap.size) (othD t ys) w) := by
 have HLT := Lib.hid hlt
 have HR := Lib.hid hr
 have hlm : m ≤ 1000000 := hr.small
 have hrb := hr.k.lt
 clear hr hlt
 have HT := Lib.hid ht
 have e16 : (t == 16) = false := by have h : t ≠ 16 := fun e => ht (by rw [e]; decide); simpa using h
 have e20 : (t == 20) = false := by have h : t ≠ 20 := fun e => ht (by rw [e]; decide); simpa using h
 have e17 : (t == 17) = false := by have h : t ≠ 17 := fun e => ht (by rw [e]; decide); simpa using h
 have e21 : (t == 21) = false := by have h : t ≠ 21 := fun e => ht (by rw [e]; decide); simpa using h
 have e18 : (t == 18) = false := by have h : t ≠ 18 := fun e => ht (by rw [e]; decide); simpa using h
 have e19 : (t == 19) = false := by have h : t ≠ 19 := fun e => ht (by rw [e]; decide); simpa using h
 have e22 : (t == 22) = false := by have h : t ≠ 22 := fun e => ht (by rw [e]; decide); simpa using h
 have e23 : (t == 23) = false := by have h : t ≠ 23 := fun e => ht (by rw [e]; decide); simpa using h
 have e24 : (t == 24) = false := by have h : t ≠ 24 := fun e => ht (by rw [e]; decide); simpa using h
 have e25 : (t == 25) = false := by have h : t ≠ 25 := fun e => ht (by rw [e]; decide); simpa using h
 have e26 : (t == 26) = false := by have h : t ≠ 26 := fun e => ht (by rw [e]; decide); simpa using h
 have e27 : (t == 27) = false := by have h : t ≠ 27 := fun e => ht (by rw [e]; decide); simpa using h
 have e28 : (t == 28) = false := by have h : t ≠ 28 := fun e => ht (by rw [e]; decide); simpa using h
 have e29 : (t == 29) = false := by have h : t ≠ 29 := fun e => ht (by rw [e]; decide); simpa using h
 clear ht
 go_enter Try.func53, Try.ntmps53
 go_upto_region 2 with fail
 refine wp_named ?_
 intro w0 hw0
 have HR0 : Hid (Re w0 rb a m cap xs p ys) := Lib.hid (by rw [← hw0]; exact HR.out.same (((Keeps.refl _ _).alloc _).alloc _))
 have HK0 : Hid (Keeps (fun k => k = rb) w w0) := Lib.hid (by rw [← hw0]; exact ((Keeps.refl _ _).alloc _).alloc _)
 have HZ0 : Hid (Blk w0 (w.heap.size + 1) #[.int .u64 0, .int .u64 0, .int .u64 0, .bool false, .int .u64 0, .int .u64 0, .int .u64 0, .slice none 0 0, .slice none 0 0, .bool false, .bool false, .int .i64 0] 32) := Lib.hid (by rw [← hw0]; have h := Blk.new (w.alloc (.cells #[.int .u64 t, .int .u64 0, .int .u64 0, .bool false, .int .u64 0, .int .u64 0, .int .u64 0, .slice none 0 0, .slice none 0 0, .bool false, .bool false, .int .i64 0] 32 (0, 0))) #[.int .u64 0, .int .u64 0, .int .u64 0, .bool false, .int .u64 0, .int .u64 0, .int .u64 0, .slice none 0 0, .slice none 0 0, .bool false, .bool false, .int .i64 0] 32; rwa [World.size_alloc] at h)
 have HL0 : Hid (Blk w0 w.heap.size #[.int .u64 t, .int .u64 0, .int .u64 0, .bool false, .int .u64 0, .int .u64 0, .int .u64 0, .slice none 0 0, .slice none 0 0, .bool false, .bool false, .int .i64 0] 32) := Lib.hid (by rw [← hw0]; exact (Blk.new w _ _).alloc _)
 obtain ⟨rs, hrs⟩ : ∃ rs, w.heap.size + 1 = rs := ⟨_, rfl⟩
 have HRS : Hid (w.heap.size ≤ rs) := Lib.hid (by omega)
 have HNZ : Hid (¬ rs = rb) := Lib.hid (by omega)
 rw [hrs] at HZ0 ⊢
 obtain ⟨fb, hfb⟩ : ∃ fb, w.heap.size = fb := ⟨_, rfl⟩
 have HFB : Hid (rs ≠ fb ∧ w.heap.size ≤ fb) := Lib.hid (by omega)
 have HNL : Hid (¬ fb = rb) := Lib.hid (by omega)
 rw [hfb] at HL0 ⊢
 clear hw0 hrb HR hrs hfb
 have HD : Hid (othD t ys = none) := Lib.hid (by
  have h := HT.out
  simp only [List.mem_cons, List.not_mem_nil, or_false, not_or] at h
  obtain ⟨h1, h2, h3, h4, h5, h6, h7, h8, h9, h10, h11, h12, h13, h14⟩ := h
  unfold othD
  rw [if_neg h1, if_neg h2, if_neg h3, if_neg h4, if_neg h5, if_neg h6, if_neg h7, if_neg h8, if_neg h9, if_neg h10, if_neg h11, if_neg h12, if_neg h13, if_neg h14])
 go_wp2_with fail
 refine (must_no _).mono ?_
 rintro e w99 ⟨rfl, rfl⟩
 go_wp2_with fail
 refine ⟨rfl, ?_⟩
 rw [HD.out]
 exact ReP.panic HK0.out

theorem otherr_any (rb : Nat) (a : Option Addr) (m cap : Nat) (xs : List UInt8) (p : Nat) (ys : List UInt8) (t : Int) (w : World) (hr : Re w rb a m cap xs p ys) (hlt : ∀ b, a.map (·.block) = some b → b < w.heap.size) :
  Calls Try.prog 53 #[.pointer (some ⟨rb, 0, none⟩), .agg #[.int .u64 t, .int .u64 0, .int .u64 0, .bool false, .int .u64 0, .int .u64 0, .int .u64 0, .slice none 0 0, .slice none 0 0, .bool false, .bool false, .int .i64 0]] w (ReP rb a m cap xs (vFrame w.heap.size) (othD t ys) w) := by
 by_cases h16 : t = 16
 ·subst h16; exact other_16r rb a m cap xs p ys w hr hlt
 by_cases h20 : t = 20
 ·subst h20; exact other_20r rb a m cap xs p ys w hr hlt
 by_cases h17 : t = 17
 ·subst h17; exact other_17r rb a m cap xs p ys w hr hlt
 by_cases h21 : t = 21
 ·subst h21; exact other_21r rb a m cap xs p ys w hr hlt
 by_cases h18 : t = 18
 ·subst h18; exact other_18r rb a m cap xs p ys w hr hlt
 by_cases h19 : t = 19
 ·subst h19; exact other_19r rb a m cap xs p ys w hr hlt
 by_cases h22 : t = 22
 ·subst h22; exact other_22r rb a m cap xs p ys w hr hlt
 by_cases h23 : t = 23
 ·subst h23; exact other_23r rb a m cap xs p ys w hr hlt
 by_cases h24 : t = 24
 ·subst h24; exact other_24r rb a m cap xs p ys w hr hlt
 by_cases h25 : t = 25
 ·subst h25; exact other_25r rb a m cap xs p ys w hr hlt
 by_cases h26 : t = 26
 ·subst h26; exact other_26r rb a m cap xs p ys w hr hlt
 by_cases h27 : t = 27
 ·subst h27; exact other_27r rb a m cap xs p ys w hr hlt
 by_cases h28 : t = 28
 ·subst h28; exact other_28r rb a m cap xs p ys w hr hlt
 by_cases h29 : t = 29
 ·subst h29; exact other_29r rb a m cap xs p ys w hr hlt
 exact other_nor rb a m cap xs p ys t w (by simp only [List.mem_cons, List.not_mem_nil, or_false, not_or]; exact ⟨h16, h20, h17, h21, h18, h19, h22, h23, h24, h25, h26, h27, h28, h29⟩) hr hlt

end Go.Proofs.Ytgfkgmmigbpciaa
