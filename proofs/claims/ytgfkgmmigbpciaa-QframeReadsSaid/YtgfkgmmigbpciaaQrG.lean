/- The reader of the package qframe: frame. -/
import Derived.Test.YtgfkgmmigbpciaaQrD
import Derived.Test.YtgfkgmmigbpciaaQrE
import Derived.Test.YtgfkgmmigbpciaaQrF
namespace Go.Proofs.Ytgfkgmmigbpciaa
set_option linter.unusedSimpArgs false
set_option linter.unusedVariables false
open Go.RowKit Go.Deep

theorem frame_results (fr : Array Value) (w : World) (b : Nat) {u0 u1 u2 u3 u4 u5 u6 u7 u8 u9 u10 u11 : Value} {t : TypeId} (h2 : fr[2]?.getD undef = .pointer (some ⟨b, 0, none⟩)) (hb : Blk w b #[u0, u1, u2, u3, u4, u5, u6, u7, u8, u9, u10, u11] t) :
  (results Try.f28 fr).run Try.prog w = .ok (.agg #[u0, u1, u2, u3, u4, u5, u6, u7, u8, u9, u10, u11]) w := by
 obtain ⟨s0, s1, s2, s3, s4, s5, s6, s7, s8, s9, s10, s11⟩ := q12_cells hb
 simp [results, Try.results28, go_sem, h2, s0, s1, s2, s3, s4, s5, s6, s7, s8, s9, s10, s11]

set_option maxRecDepth 100000 in
set_option maxHeartbeats 3200000 in
theorem frame_badr (rb : Nat) (a : Option Addr) (m cap : Nat) (xs : List UInt8) (p : Nat) (ys : List UInt8) (t : Int) (ys1 : List UInt8) (w : World) (hq : pn ys = some (t, ys1)) (hl : ¬ rvL ys = varLenV t) (hr : Re w rb a m cap xs p ys) (hlt : ∀ b, a.map (·.block) = some b → b < w.heap.size) :
  Calls Try.prog 28 #[.pointer (some ⟨rb, 0, none⟩)] w (ReP rb a m cap xs (vFrame w.heap.size) (decQ ys) w) := by
 have HLT := Lib.hid hlt
 have HR := Lib.hid hr
 have hlm : m ≤ 1000000 := hr.small
 have hrb := hr.k.lt
 have HQ1 := Lib.hid hq
 have HL1 := Lib.hid hl
 have c1 : w.cell? ⟨rb, 1, none⟩ = some (.int .i64 (p : Int)) := hr.k.cell 1
 clear hq hl
 clear hr hlt
 go_enter Try.func28, Try.ntmps28
 go_wp2_with fail
 refine calls_named ?_
 intro w0 hw0
 have HR0 : Hid (Re w0 rb a m cap xs p ys) := Lib.hid (by rw [← hw0]; exact HR.out.same ((Keeps.refl _ _).alloc _))
 have HK0 : Hid (Keeps (fun k => k = rb) w w0) := Lib.hid (by rw [← hw0]; exact (Keeps.refl _ _).alloc _)
 have HZ0 : Hid (Blk w0 w.heap.size #[.int .u64 0, .int .u64 0, .int .u64 0, .bool false, .int .u64 0, .int .u64 0, .int .u64 0, .slice none 0 0, .slice none 0 0, .bool false, .bool false, .int .i64 0] 32) := Lib.hid (by rw [← hw0]; exact Blk.new _ _ _)
 obtain ⟨rs, hrs⟩ : ∃ rs, w.heap.size = rs := ⟨_, rfl⟩
 have HRS : Hid (w.heap.size ≤ rs) := Lib.hid (by omega)
 have HNZ : Hid (¬ rs = rb) := Lib.hid (by omega)
 rw [hrs] at HZ0 ⊢
 clear hw0 hrb HR hrs
 clear c1
 refine (num_any rb a m cap xs p ys w0 HR0.out).mono ?_
 rintro e w1 ⟨hk, hr⟩
 rw [HQ1.out] at hr
 obtain ⟨p1, val, rfl, rfl, hr⟩ := hr
 have HR1 : Hid (Re w1 rb a m cap xs p1 ys1) := Lib.hid hr
 have HK1 := Lib.hid (HK0.out.trans hk)
 have HZ1 := Lib.hid (hk.blk HZ0.out HNZ.out)
 obtain ⟨k, hk1, hk2, hk3, hk4, hk8⟩ := (pn_bd HQ1.out).2.2.2
 have HV1 : Hid (0 ≤ (t : Int) ∧ (t : Int) ≤ 4611686018427387903) := Lib.hid ⟨(pn_bd HQ1.out).1, (pn_bd HQ1.out).2.1⟩
 have hpk : (p1 : Int) - (p : Int) = (k : Int) := by
  have h1 := HR0.out.len
  have h2 := HR0.out.le
  have h3 := hr.len
  have h4 := hr.le
  rw [hk3, List.length_drop] at h3
  omega
 obtain ⟨V, hV⟩ : ∃ V, varLenV t = V := ⟨_, rfl⟩
 have HVV := Lib.hid hV
 have hkV : ((k : Int) == V) = false := by have h := HL1.out; rw [hk1, hV] at h; simpa using h
 have hwk : IntKind.i64.wrap (k : Int) = (k : Int) := by rw [IntKind.wrap_i64]; omega
 have c1 : w1.cell? ⟨rb, 1, none⟩ = some (.int .i64 (p1 : Int)) := hr.k.cell 1
 clear hk hr hk1 hk2 hk3 hk4 hk8 hV HR0 HK0 HZ0
 go_upto_region 3 with fail
 refine wp_region_held (S := fun w' => w'.cell? ⟨rb, 1, none⟩ = some (.int .i64 (p1 : Int)) ∧ w'.cell? ⟨rb, 1, none⟩ = some (.int .i64 (p1 : Int))) (by kernel_rfl) ?_
 change wpAnyH _ _ _ _ _ _ _ _ (World.drew _)
 have hS : (fun w' : World => w'.cell? ⟨rb, 1, none⟩ = some (.int .i64 (p1 : Int)) ∧ w'.cell? ⟨rb, 1, none⟩ = some (.int .i64 (p1 : Int))) w1.drew := ⟨c1, c1⟩
 refine tH (i := 0) (v := ?_) rfl ?_ hS ?_
 rotate_left
 ·intro wz ⟨_, _⟩; go_simp; try with_reducible rfl
 refine tH (i := 1) (v := ?_) rfl ?_ hS ?_
 rotate_left
 ·intro wz ⟨_, _⟩; go_simp; try with_reducible rfl
 refine tH (i := 2) (v := ?_) rfl ?_ hS ?_
 rotate_left
 ·intro wz ⟨_, _⟩; go_simp; try with_reducible rfl
 refine tH (i := 3) (v := ?_) rfl ?_ hS ?_
 rotate_left
 ·intro wz ⟨_, _⟩; go_simp; try with_reducible rfl
 refine tH (i := 4) (v := ?_) rfl ?_ hS ?_
 rotate_left
 ·intro wz ⟨_, _⟩; go_simp; try with_reducible rfl
 refine tH (i := 5) (v := .int .i64 (k : Int)) rfl ?_ hS ?_
 ·intro wz ⟨_, _⟩; go_simp; try rw [hpk]; try rw [hwk]; try with_reducible rfl
 refine tH (i := 6) (v := ?_) rfl ?_ hS ?_
 rotate_left
 ·intro wz ⟨_, _⟩; go_simp; try with_reducible rfl
 refine held_call (i := 7) 48 #[.int .u64 t] rfl (by kernel_rfl) (by kernel_rfl) (by kernel_rfl) ?_
 refine (varlen_any t _ HV1.out.1).mono ?_
 rintro e w9 ⟨rfl, rfl⟩
 rw [HVV.out]
 refine ⟨_, rfl, hS, ?_⟩
 refine tH (i := 8) (v := .bool false) rfl ?_ hS ?_
 ·intro wz ⟨_, _⟩; go_simp; try rw [hkV]; try with_reducible rfl
 refine held_callP (i := 9) 27 #[.bool false] rfl (by kernel_rfl) (by kernel_rfl) (by kernel_rfl) ?_
 refine (must_no _).mono ?_
 rintro e w9 ⟨rfl, rfl⟩
 refine Or.inr ⟨_, rfl, ?_⟩
 have HD : Hid (decQ ys = none) := Lib.hid (by unfold decQ; rw [pb_some _ HQ1.out, if_neg HL1.out])
 have HK2 : Hid (Keeps (fun k => k = rb) w w1.drew) := Lib.hid HK1.out.drew
 clear hS c1 hpk hkV hwk
 go_wp2_with fail
 refine ⟨rfl, ?_⟩
 rw [HD.out]
 exact ReP.panic HK2.out

set_option maxRecDepth 100000 in
set_option maxHeartbeats 3200000 in
theorem frame_nonr (rb : Nat) (a : Option Addr) (m cap : Nat) (xs : List UInt8) (p : Nat) (ys : List UInt8) (w : World) (hq : pn ys = none) (hr : Re w rb a m cap xs p ys) (hlt : ∀ b, a.map (·.block) = some b → b < w.heap.size) :
  Calls Try.prog 28 #[.pointer (some ⟨rb, 0, none⟩)] w (ReP rb a m cap xs (vFrame w.heap.size) (decQ ys) w) := by
 have HLT := Lib.hid hlt
 have HR := Lib.hid hr
 have hlm : m ≤ 1000000 := hr.small
 have hrb := hr.k.lt
 have HQ1 := Lib.hid hq
 have c1 : w.cell? ⟨rb, 1, none⟩ = some (.int .i64 (p : Int)) := hr.k.cell 1
 clear hq
 clear hr hlt
 go_enter Try.func28, Try.ntmps28
 go_wp2_with fail
 refine calls_named ?_
 intro w0 hw0
 have HR0 : Hid (Re w0 rb a m cap xs p ys) := Lib.hid (by rw [← hw0]; exact HR.out.same ((Keeps.refl _ _).alloc _))
 have HK0 : Hid (Keeps (fun k => k = rb) w w0) := Lib.hid (by rw [← hw0]; exact (Keeps.refl _ _).alloc _)
 have HZ0 : Hid (Blk w0 w.heap.size #[.int .u64 0, .int .u64 0, .int .u64 0, .bool false, .int .u64 0, .int .u64 0, .int .u64 0, .slice none 0 0, .slice none 0 0, .bool false, .bool false, .int .i64 0] 32) := Lib.hid (by rw [← hw0]; exact Blk.new _ _ _)
 obtain ⟨rs, hrs⟩ : ∃ rs, w.heap.size = rs := ⟨_, rfl⟩
 have HRS : Hid (w.heap.size ≤ rs) := Lib.hid (by omega)
 have HNZ : Hid (¬ rs = rb) := Lib.hid (by omega)
 rw [hrs] at HZ0 ⊢
 clear hw0 hrb HR hrs
 clear c1
 refine (num_any rb a m cap xs p ys w0 HR0.out).mono ?_
 rintro e w1 ⟨hk, hr⟩
 rw [HQ1.out] at hr
 have hr' : e = .panicked [{ v := stopV, recovered := false }] := hr
 subst hr'
 have HK1 := Lib.hid (HK0.out.trans hk)
 have HD : Hid (decQ ys = none) := Lib.hid (by unfold decQ; rw [pb_none _ HQ1.out])
 clear hk hr
 go_wp2_with fail
 refine ⟨rfl, ?_⟩
 rw [HD.out]
 exact ReP.panic HK1.out

set_option maxRecDepth 100000 in
set_option maxHeartbeats 50000000 in
theorem frame_tr (rb : Nat) (a : Option Addr) (m cap : Nat) (xs : List UInt8) (p : Nat) (ys : List UInt8) (t : Int) (ys1 : List UInt8) (w : World) (hq : pn ys = some (t, ys1)) (hl : rvL ys = varLenV t) (hr : Re w rb a m cap xs p ys) (hlt : ∀ b, a.map (·.block) = some b → b < w.heap.size) :
  Calls Try.prog 28 #[.pointer (some ⟨rb, 0, none⟩)] w (ReP rb a m cap xs (vFrame w.heap.size) (decT t ys1) w) := by
 have HLT := Lib.hid hlt
 have HR := Lib.hid hr
 have hlm : m ≤ 1000000 := hr.small
 have hrb := hr.k.lt
 have HQ1 := Lib.hid hq
 have HL1 := Lib.hid hl
 have c1 : w.cell? ⟨rb, 1, none⟩ = some (.int .i64 (p : Int)) := hr.k.cell 1
 clear hq hl
 obtain ⟨DD, hDD⟩ : ∃ DD, decT t ys1 = DD := ⟨_, rfl⟩
 rw [hDD]
 have HDD := Lib.hid hDD
 clear hr hlt hDD
 go_enter Try.func28, Try.ntmps28
 go_wp2_with fail
 refine calls_named ?_
 intro w0 hw0
 have HR0 : Hid (Re w0 rb a m cap xs p ys) := Lib.hid (by rw [← hw0]; exact HR.out.same ((Keeps.refl _ _).alloc _))
 have HK0 : Hid (Keeps (fun k => k = rb) w w0) := Lib.hid (by rw [← hw0]; exact (Keeps.refl _ _).alloc _)
 have HZ0 : Hid (Blk w0 w.heap.size #[.int .u64 0, .int .u64 0, .int .u64 0, .bool false, .int .u64 0, .int .u64 0, .int .u64 0, .slice none 0 0, .slice none 0 0, .bool false, .bool false, .int .i64 0] 32) := Lib.hid (by rw [← hw0]; exact Blk.new _ _ _)
 obtain ⟨rs, hrs⟩ : ∃ rs, w.heap.size = rs := ⟨_, rfl⟩
 have HRS : Hid (w.heap.size ≤ rs) := Lib.hid (by omega)
 have HNZ : Hid (¬ rs = rb) := Lib.hid (by omega)
 rw [hrs] at HZ0 ⊢
 clear hw0 hrb HR hrs
 clear c1
 refine (num_any rb a m cap xs p ys w0 HR0.out).mono ?_
 rintro e w1 ⟨hk, hr⟩
 rw [HQ1.out] at hr
 obtain ⟨p1, val, rfl, rfl, hr⟩ := hr
 have HR1 : Hid (Re w1 rb a m cap xs p1 ys1) := Lib.hid hr
 have HK1 := Lib.hid (HK0.out.trans hk)
 have HZ1 := Lib.hid (hk.blk HZ0.out HNZ.out)
 obtain ⟨k, hk1, hk2, hk3, hk4, hk8⟩ := (pn_bd HQ1.out).2.2.2
 have HV1 : Hid (0 ≤ (t : Int) ∧ (t : Int) ≤ 4611686018427387903) := Lib.hid ⟨(pn_bd HQ1.out).1, (pn_bd HQ1.out).2.1⟩
 have hpk : (p1 : Int) - (p : Int) = (k : Int) := by
  have h1 := HR0.out.len
  have h2 := HR0.out.le
  have h3 := hr.len
  have h4 := hr.le
  rw [hk3, List.length_drop] at h3
  omega
 obtain ⟨V, hV⟩ : ∃ V, varLenV t = V := ⟨_, rfl⟩
 have HVV := Lib.hid hV
 have hkV : ((k : Int) == V) = true := by rw [← hV, ← HL1.out, hk1]; simp
 have hwk : IntKind.i64.wrap (k : Int) = (k : Int) := by rw [IntKind.wrap_i64]; omega
 have c1 : w1.cell? ⟨rb, 1, none⟩ = some (.int .i64 (p1 : Int)) := hr.k.cell 1
 clear hk hr hk1 hk2 hk3 hk4 hk8 hV HR0 HK0 HZ0
 go_upto_region 3 with fail
 refine wp_region_held (S := fun w' => w'.cell? ⟨rb, 1, none⟩ = some (.int .i64 (p1 : Int)) ∧ w'.cell? ⟨rb, 1, none⟩ = some (.int .i64 (p1 : Int))) (by kernel_rfl) ?_
 change wpAnyH _ _ _ _ _ _ _ _ (World.drew _)
 have hS : (fun w' : World => w'.cell? ⟨rb, 1, none⟩ = some (.int .i64 (p1 : Int)) ∧ w'.cell? ⟨rb, 1, none⟩ = some (.int .i64 (p1 : Int))) w1.drew := ⟨c1, c1⟩
 refine tH (i := 0) (v := ?_) rfl ?_ hS ?_
 rotate_left
 ·intro wz ⟨_, _⟩; go_simp; try with_reducible rfl
 refine tH (i := 1) (v := ?_) rfl ?_ hS ?_
 rotate_left
 ·intro wz ⟨_, _⟩; go_simp; try with_reducible rfl
 refine tH (i := 2) (v := ?_) rfl ?_ hS ?_
 rotate_left
 ·intro wz ⟨_, _⟩; go_simp; try with_reducible rfl
 refine tH (i := 3) (v := ?_) rfl ?_ hS ?_
 rotate_left
 ·intro wz ⟨_, _⟩; go_simp; try with_reducible rfl
 refine tH (i := 4) (v := ?_) rfl ?_ hS ?_
 rotate_left
 ·intro wz ⟨_, _⟩; go_simp; try with_reducible rfl
 refine tH (i := 5) (v := .int .i64 (k : Int)) rfl ?_ hS ?_
 ·intro wz ⟨_, _⟩; go_simp; try rw [hpk]; try rw [hwk]; try with_reducible rfl
 refine tH (i := 6) (v := ?_) rfl ?_ hS ?_
 rotate_left
 ·intro wz ⟨_, _⟩; go_simp; try with_reducible rfl
 refine held_call (i := 7) 48 #[.int .u64 t] rfl (by kernel_rfl) (by kernel_rfl) (by kernel_rfl) ?_
 refine (varlen_any t _ HV1.out.1).mono ?_
 rintro e w9 ⟨rfl, rfl⟩
 rw [HVV.out]
 refine ⟨_, rfl, hS, ?_⟩
 refine tH (i := 8) (v := .bool true) rfl ?_ hS ?_
 ·intro wz ⟨_, _⟩; go_simp; try rw [hkV]; try with_reducible rfl
 refine held_callP (i := 9) 27 #[.bool true] rfl (by kernel_rfl) (by kernel_rfl) (by kernel_rfl) ?_
 refine (must_ok _).mono ?_
 rintro e w9 ⟨rfl, rfl⟩
 refine Or.inl ⟨_, rfl, hS, ?_⟩
 refine wpAnyH_done (by kernel_rfl) ?_ _
 clear hS c1 hpk hkV hwk
 refine thenX_named ?_
 intro w2 hw2
 have HR2 : Hid (Re w2 rb a m cap xs p1 ys1) := Lib.hid (by rw [← hw2]; exact HR1.out.same ((Keeps.refl _ _).drew))
 have HK2 : Hid (Keeps (fun k => k = rb) w w2) := Lib.hid (by rw [← hw2]; exact HK1.out.drew)
 have HZ2 : Hid (Blk w2 rs #[.int .u64 0, .int .u64 0, .int .u64 0, .bool false, .int .u64 0, .int .u64 0, .int .u64 0, .slice none 0 0, .slice none 0 0, .bool false, .bool false, .int .i64 0] 32) := Lib.hid (by rw [← hw2]; exact HZ1.out.drew)
 have HSZ0 : Hid True := Lib.hid trivial
 clear hw2 HR1 HK1 HZ1
 go_upto_region 5 with fail
 refine wp_named ?_
 intro w3 hw3
 have HR3 : Hid (Re w3 rb a m cap xs p1 ys1) := Lib.hid (by rw [← hw3]; exact HR2.out.same ((Keeps.refl _ _).alloc _))
 have HK3 : Hid (Keeps (fun k => k = rb) w w3) := Lib.hid (by rw [← hw3]; exact HK2.out.alloc _)
 have HZ3 : Hid (Blk w3 rs #[.int .u64 0, .int .u64 0, .int .u64 0, .bool false, .int .u64 0, .int .u64 0, .int .u64 0, .slice none 0 0, .slice none 0 0, .bool false, .bool false, .int .i64 0] 32) := Lib.hid (by rw [← hw3]; exact HZ2.out.alloc _)
 have HL3 : Hid (Blk w3 w2.heap.size #[.int .u64 t, .int .u64 0, .int .u64 0, .bool false, .int .u64 0, .int .u64 0, .int .u64 0, .slice none 0 0, .slice none 0 0, .bool false, .bool false, .int .i64 0] 32) := Lib.hid (by rw [← hw3]; exact Blk.new _ _ _)
 have hfb0 : rs < w2.heap.size := HZ2.out.lt
 have hfb1 : w.heap.size ≤ w2.heap.size := HK2.out.size
 have hfb2 : rb < w2.heap.size := HR2.out.k.lt
 have HFL3 : Hid (w2.heap.size < w3.heap.size) := Lib.hid HL3.out.lt
 clear hw3 HR2 HK2 HZ2
 generalize w2.heap.size = fb at *
 have HNL : Hid (¬ fb = rb) := Lib.hid (by omega)
 have HFB : Hid (rs ≠ fb ∧ w.heap.size ≤ fb) := Lib.hid ⟨Nat.ne_of_lt hfb0, hfb1⟩
 clear hfb0 hfb1 hfb2
 by_cases h1 : t = 1
 ·subst h1
  go_upto_region 26 with fail
  have HD : Hid (DD = some (⟨1, 0, 0, false, 0, 0, 0, [], [], false, false, 0⟩, ys1)) := Lib.hid (by rw [← HDD.out]; show oneD 1 ys1 = _; unfold oneD; simp only [pb, Bool.false_eq_true, if_false, if_true, ite_true, ite_false])
  obtain ⟨x0, x1, x2, x3, x4, x5, x6, x7, x8, x9, x10, x11⟩ := q12_cells HL3.out
  obtain ⟨t0, t1, t2, t3, t4, t5, t6, t7, t8, t9, t10, t11⟩ := q12_cells HZ3.out
  obtain ⟨z0, z1, z2, z3, z4, z5, z6, z7, z8, z9, z10, z11⟩ := q12_free HZ3.out
  go_wp2_with fail
  refine bodyPost_ret (v := ?_) ?_ (by kernel_rfl) ?_
  rotate_left
  ·exact frame_results _ _ rs (by kernel_rfl) (qs_blk HZ3.out _ _ _ _ _ _ _ _ _ _ _ _)
  refine ⟨qs_keep HK3.out (fun h => absurd h (by have := HRS.out; omega)) _ _ _ _ _ _ _ _ _ _ _ _, ?_⟩
  rw [HD.out]
  refine ⟨p1, _, rfl, ⟨_, ?_, rfl, Qn.plain _ _ _ _ _ _ _ _ _ _ _ _ ⟨by omega, by omega⟩ inU_0 inU_0 inU_0 inU_0 inU_0 inU_0 (by omega)⟩, HR3.out.keep (qs_keep (S := fun k => k = rs) (Keeps.refl _ _) (fun _ => rfl) _ _ _ _ _ _ _ _ _ _ _ _) (fun h => HNZ.out h.symm) (fun b hb h => by have h1 := HLT.out b hb; have h2 := HRS.out; omega)⟩
  rfl
 by_cases h30 : t = 30
 ·subst h30
  go_upto_region 26 with fail
  have HD : Hid (DD = some (⟨30, 0, 0, false, 0, 0, 0, [], [], false, false, 0⟩, ys1)) := Lib.hid (by rw [← HDD.out]; show oneD 30 ys1 = _; unfold oneD; simp only [pb, Bool.false_eq_true, if_false, if_true, ite_true, ite_false])
  obtain ⟨x0, x1, x2, x3, x4, x5, x6, x7, x8, x9, x10, x11⟩ := q12_cells HL3.out
  obtain ⟨t0, t1, t2, t3, t4, t5, t6, t7, t8, t9, t10, t11⟩ := q12_cells HZ3.out
  obtain ⟨z0, z1, z2, z3, z4, z5, z6, z7, z8, z9, z10, z11⟩ := q12_free HZ3.out
  go_wp2_with fail
  refine bodyPost_ret (v := ?_) ?_ (by kernel_rfl) ?_
  rotate_left
  ·exact frame_results _ _ rs (by kernel_rfl) (qs_blk HZ3.out _ _ _ _ _ _ _ _ _ _ _ _)
  refine ⟨qs_keep HK3.out (fun h => absurd h (by have := HRS.out; omega)) _ _ _ _ _ _ _ _ _ _ _ _, ?_⟩
  rw [HD.out]
  refine ⟨p1, _, rfl, ⟨_, ?_, rfl, Qn.plain _ _ _ _ _ _ _ _ _ _ _ _ ⟨by omega, by omega⟩ inU_0 inU_0 inU_0 inU_0 inU_0 inU_0 (by omega)⟩, HR3.out.keep (qs_keep (S := fun k => k = rs) (Keeps.refl _ _) (fun _ => rfl) _ _ _ _ _ _ _ _ _ _ _ _) (fun h => HNZ.out h.symm) (fun b hb h => by have h1 := HLT.out b hb; have h2 := HRS.out; omega)⟩
  rfl
 by_cases h4 : t = 4
 ·subst h4
  go_wp2_with fail
  refine (num_any rb a m cap xs p1 ys1 w3 HR3.out).mono ?_
  rintro e w4 ⟨hk, hr⟩
  have HK4 := Lib.hid (HK3.out.trans hk)
  have HZ4 := Lib.hid (hk.blk HZ3.out HNZ.out)
  have HL4 := Lib.hid (hk.blk HL3.out HNL.out)
  have HSZ4 : Hid (w3.heap.size ≤ w4.heap.size) := Lib.hid hk.size
  clear hk
  cases hq2 : pn ys1 with
  | none =>
   rw [hq2] at hr
   have hr' : e = .panicked [{ v := stopV, recovered := false }] := hr
   subst hr'
   have HQ2 := Lib.hid hq2
   clear hr hq2
   have HD : Hid (DD = none) := Lib.hid (by rw [← HDD.out]; show resD ys1 = _; unfold resD; simp only [pb, HQ2.out, Bool.false_eq_true, if_false, if_true, ite_true, ite_false])
   go_wp2_with fail
   refine ⟨rfl, ?_⟩
   rw [HD.out]
   exact ReP.panic HK4.out
  | some x =>
   obtain ⟨v2, ys2⟩ := x
   rw [hq2] at hr
   obtain ⟨p2, val, rfl, rfl, hr⟩ := hr
   have hbd := pn_bd hq2
   have HU2 : Hid (inU v2) := Lib.hid ⟨hbd.1, by omega⟩
   have HV2 : Hid (0 ≤ v2 ∧ v2 ≤ 4611686018427387903) := Lib.hid ⟨hbd.1, hbd.2.1⟩
   have HQ2 := Lib.hid hq2
   have HR4 := Lib.hid hr
   clear hr hq2 hbd
   clear HR3 HK3 HZ3 HL3
   go_wp2_with fail
   refine (num_any rb a m cap xs p2 ys2 w4 HR4.out).mono ?_
   rintro e w5 ⟨hk, hr⟩
   have HK5 := Lib.hid (HK4.out.trans hk)
   have HZ5 := Lib.hid (hk.blk HZ4.out HNZ.out)
   have HL5 := Lib.hid (hk.blk HL4.out HNL.out)
   have HSZ5 : Hid (w4.heap.size ≤ w5.heap.size) := Lib.hid hk.size
   clear hk
   cases hq3 : pn ys2 with
   | none =>
    rw [hq3] at hr
    have hr' : e = .panicked [{ v := stopV, recovered := false }] := hr
    subst hr'
    have HQ3 := Lib.hid hq3
    clear hr hq3
    have HD : Hid (DD = none) := Lib.hid (by rw [← HDD.out]; show resD ys1 = _; unfold resD; simp only [pb, HQ2.out, HQ3.out, Bool.false_eq_true, if_false, if_true, ite_true, ite_false])
    go_wp2_with fail
    refine ⟨rfl, ?_⟩
    rw [HD.out]
    exact ReP.panic HK5.out
   | some x =>
    obtain ⟨v3, ys3⟩ := x
    rw [hq3] at hr
    obtain ⟨p3, val, rfl, rfl, hr⟩ := hr
    have hbd := pn_bd hq3
    have HU3 : Hid (inU v3) := Lib.hid ⟨hbd.1, by omega⟩
    have HV3 : Hid (0 ≤ v3 ∧ v3 ≤ 4611686018427387903) := Lib.hid ⟨hbd.1, hbd.2.1⟩
    have HQ3 := Lib.hid hq3
    have HR5 := Lib.hid hr
    clear hr hq3 hbd
    clear HR4 HK4 HZ4 HL4
    go_wp2_with fail
    refine (num_any rb a m cap xs p3 ys3 w5 HR5.out).mono ?_
    rintro e w6 ⟨hk, hr⟩
    have HK6 := Lib.hid (HK5.out.trans hk)
    have HZ6 := Lib.hid (hk.blk HZ5.out HNZ.out)
    have HL6 := Lib.hid (hk.blk HL5.out HNL.out)
    have HSZ6 : Hid (w5.heap.size ≤ w6.heap.size) := Lib.hid hk.size
    clear hk
    cases hq4 : pn ys3 with
    | none =>
     rw [hq4] at hr
     have hr' : e = .panicked [{ v := stopV, recovered := false }] := hr
     subst hr'
     have HQ4 := Lib.hid hq4
     clear hr hq4
     have HD : Hid (DD = none) := Lib.hid (by rw [← HDD.out]; show resD ys1 = _; unfold resD; simp only [pb, HQ2.out, HQ3.out, HQ4.out, Bool.false_eq_true, if_false, if_true, ite_true, ite_false])
     go_wp2_with fail
     refine ⟨rfl, ?_⟩
     rw [HD.out]
     exact ReP.panic HK6.out
    | some x =>
     obtain ⟨v4, ys4⟩ := x
     rw [hq4] at hr
     obtain ⟨p4, val, rfl, rfl, hr⟩ := hr
     have hbd := pn_bd hq4
     have HU4 : Hid (inU v4) := Lib.hid ⟨hbd.1, by omega⟩
     have HV4 : Hid (0 ≤ v4 ∧ v4 ≤ 4611686018427387903) := Lib.hid ⟨hbd.1, hbd.2.1⟩
     have HQ4 := Lib.hid hq4
     have HR6 := Lib.hid hr
     clear hr hq4 hbd
     clear HR5 HK5 HZ5 HL5
     have x1 : w6.cell? ⟨fb, 1, none⟩ = some (.int .u64 0) := HL6.out.cell 1
     have x5 : w6.cell? ⟨fb, 5, none⟩ = some (.int .u64 0) := HL6.out.cell 5
     have x4 : w6.cell? ⟨fb, 4, none⟩ = some (.int .u64 0) := HL6.out.cell 4
     have y1 : w6.frozen? ⟨fb, 1, none⟩ = false := HL6.out.free 1
     have y5 : w6.frozen? ⟨fb, 5, none⟩ = false := HL6.out.free 5
     have y4 : w6.frozen? ⟨fb, 4, none⟩ = false := HL6.out.free 4
     go_upto_region 26 with fail
     clear x1 y1 x5 y5 x4 y4
     refine wp_named ?_
     intro w7 hw7
     have HR7 : Hid (Re w7 rb a m cap xs p4 ys4) := Lib.hid (by rw [← hw7]; exact HR6.out.keep ((((Keeps.refl (fun k => k = fb) w6).put 1 (.int .u64 v2)).put 5 (.int .u64 v3)).put 4 (.int .u64 v4)) (fun h => HNL.out h.symm) (fun b hb h => by have := HLT.out b hb; have := HFB.out.2; omega))
     have HK7 : Hid (Keeps (fun k => k = rb) w w7) := Lib.hid (by rw [← hw7]; exact (((HK6.out.setCell (p := ⟨fb, 1, none⟩) (fun h => absurd h (by have := HFB.out.2; dsimp only; omega)) (.int .u64 v2)).setCell (p := ⟨fb, 5, none⟩) (fun h => absurd h (by have := HFB.out.2; dsimp only; omega)) (.int .u64 v3)).setCell (p := ⟨fb, 4, none⟩) (fun h => absurd h (by have := HFB.out.2; dsimp only; omega)) (.int .u64 v4)))
     have HZ7 : Hid (Blk w7 rs #[.int .u64 0, .int .u64 0, .int .u64 0, .bool false, .int .u64 0, .int .u64 0, .int .u64 0, .slice none 0 0, .slice none 0 0, .bool false, .bool false, .int .i64 0] 32) := Lib.hid (by rw [← hw7]; exact ((((Keeps.refl (fun k => k = fb) w6).put 1 (.int .u64 v2)).put 5 (.int .u64 v3)).put 4 (.int .u64 v4)).blk HZ6.out HFB.out.1)
     have HL7 : Hid (Blk w7 fb #[.int .u64 4, .int .u64 v2, .int .u64 0, .bool false, .int .u64 v4, .int .u64 v3, .int .u64 0, .slice none 0 0, .slice none 0 0, .bool false, .bool false, .int .i64 0] 32) := Lib.hid (by rw [← hw7]; exact (((HL6.out.set 1 (.int .u64 v2)).set 5 (.int .u64 v3)).set 4 (.int .u64 v4)).as rfl)
     clear hw7
     clear HR6 HK6 HZ6 HL6
     have HD : Hid (DD = some (⟨4, v2, 0, false, v4, v3, 0, [], [], false, false, 0⟩, ys4)) := Lib.hid (by rw [← HDD.out]; show resD ys1 = _; unfold resD; simp only [pb, HQ2.out, HQ3.out, HQ4.out, Bool.false_eq_true, if_false, if_true, ite_true, ite_false])
     obtain ⟨x0, x1, x2, x3, x4, x5, x6, x7, x8, x9, x10, x11⟩ := q12_cells HL7.out
     obtain ⟨t0, t1, t2, t3, t4, t5, t6, t7, t8, t9, t10, t11⟩ := q12_cells HZ7.out
     obtain ⟨z0, z1, z2, z3, z4, z5, z6, z7, z8, z9, z10, z11⟩ := q12_free HZ7.out
     go_wp2_with fail
     refine bodyPost_ret (v := ?_) ?_ (by kernel_rfl) ?_
     rotate_left
     ·exact frame_results _ _ rs (by kernel_rfl) (qs_blk HZ7.out _ _ _ _ _ _ _ _ _ _ _ _)
     refine ⟨qs_keep HK7.out (fun h => absurd h (by have := HRS.out; omega)) _ _ _ _ _ _ _ _ _ _ _ _, ?_⟩
     rw [HD.out]
     refine ⟨p4, _, rfl, ⟨_, ?_, rfl, Qn.plain _ _ _ _ _ _ _ _ _ _ _ _ ⟨by omega, by omega⟩ HU2.out inU_0 HU4.out HU3.out inU_0 inU_0 (by omega)⟩, HR7.out.keep (qs_keep (S := fun k => k = rs) (Keeps.refl _ _) (fun _ => rfl) _ _ _ _ _ _ _ _ _ _ _ _) (fun h => HNZ.out h.symm) (fun b hb h => by have h1 := HLT.out b hb; have h2 := HRS.out; omega)⟩
     rfl
 by_cases h5 : t = 5
 ·subst h5
  go_wp2_with fail
  refine (num_any rb a m cap xs p1 ys1 w3 HR3.out).mono ?_
  rintro e w4 ⟨hk, hr⟩
  have HK4 := Lib.hid (HK3.out.trans hk)
  have HZ4 := Lib.hid (hk.blk HZ3.out HNZ.out)
  have HL4 := Lib.hid (hk.blk HL3.out HNL.out)
  have HSZ4 : Hid (w3.heap.size ≤ w4.heap.size) := Lib.hid hk.size
  clear hk
  cases hq2 : pn ys1 with
  | none =>
   rw [hq2] at hr
   have hr' : e = .panicked [{ v := stopV, recovered := false }] := hr
   subst hr'
   have HQ2 := Lib.hid hq2
   clear hr hq2
   have HD : Hid (DD = none) := Lib.hid (by rw [← HDD.out]; show stoD ys1 = _; unfold stoD; simp only [pb, HQ2.out, Bool.false_eq_true, if_false, if_true, ite_true, ite_false])
   go_wp2_with fail
   refine ⟨rfl, ?_⟩
   rw [HD.out]
   exact ReP.panic HK4.out
  | some x =>
   obtain ⟨v2, ys2⟩ := x
   rw [hq2] at hr
   obtain ⟨p2, val, rfl, rfl, hr⟩ := hr
   have hbd := pn_bd hq2
   have HU2 : Hid (inU v2) := Lib.hid ⟨hbd.1, by omega⟩
   have HV2 : Hid (0 ≤ v2 ∧ v2 ≤ 4611686018427387903) := Lib.hid ⟨hbd.1, hbd.2.1⟩
   have HQ2 := Lib.hid hq2
   have HR4 := Lib.hid hr
   clear hr hq2 hbd
   clear HR3 HK3 HZ3 HL3
   go_wp2_with fail
   refine (num_any rb a m cap xs p2 ys2 w4 HR4.out).mono ?_
   rintro e w5 ⟨hk, hr⟩
   have HK5 := Lib.hid (HK4.out.trans hk)
   have HZ5 := Lib.hid (hk.blk HZ4.out HNZ.out)
   have HL5 := Lib.hid (hk.blk HL4.out HNL.out)
   have HSZ5 : Hid (w4.heap.size ≤ w5.heap.size) := Lib.hid hk.size
   clear hk
   cases hq3 : pn ys2 with
   | none =>
    rw [hq3] at hr
    have hr' : e = .panicked [{ v := stopV, recovered := false }] := hr
    subst hr'
    have HQ3 := Lib.hid hq3
    clear hr hq3
    have HD : Hid (DD = none) := Lib.hid (by rw [← HDD.out]; show stoD ys1 = _; unfold stoD; simp only [pb, HQ2.out, HQ3.out, Bool.false_eq_true, if_false, if_true, ite_true, ite_false])
    go_wp2_with fail
    refine ⟨rfl, ?_⟩
    rw [HD.out]
    exact ReP.panic HK5.out
   | some x =>
    obtain ⟨v3, ys3⟩ := x
    rw [hq3] at hr
    obtain ⟨p3, val, rfl, rfl, hr⟩ := hr
    have hbd := pn_bd hq3
    have HU3 : Hid (inU v3) := Lib.hid ⟨hbd.1, by omega⟩
    have HV3 : Hid (0 ≤ v3 ∧ v3 ≤ 4611686018427387903) := Lib.hid ⟨hbd.1, hbd.2.1⟩
    have HQ3 := Lib.hid hq3
    have HR5 := Lib.hid hr
    clear hr hq3 hbd
    clear HR4 HK4 HZ4 HL4
    have x1 : w5.cell? ⟨fb, 1, none⟩ = some (.int .u64 0) := HL5.out.cell 1
    have x5 : w5.cell? ⟨fb, 5, none⟩ = some (.int .u64 0) := HL5.out.cell 5
    have y1 : w5.frozen? ⟨fb, 1, none⟩ = false := HL5.out.free 1
    have y5 : w5.frozen? ⟨fb, 5, none⟩ = false := HL5.out.free 5
    go_upto_region 26 with fail
    clear x1 y1 x5 y5
    refine wp_named ?_
    intro w6 hw6
    have HR6 : Hid (Re w6 rb a m cap xs p3 ys3) := Lib.hid (by rw [← hw6]; exact HR5.out.keep (((Keeps.refl (fun k => k = fb) w5).put 1 (.int .u64 v2)).put 5 (.int .u64 v3)) (fun h => HNL.out h.symm) (fun b hb h => by have := HLT.out b hb; have := HFB.out.2; omega))
    have HK6 : Hid (Keeps (fun k => k = rb) w w6) := Lib.hid (by rw [← hw6]; exact ((HK5.out.setCell (p := ⟨fb, 1, none⟩) (fun h => absurd h (by have := HFB.out.2; dsimp only; omega)) (.int .u64 v2)).setCell (p := ⟨fb, 5, none⟩) (fun h => absurd h (by have := HFB.out.2; dsimp only; omega)) (.int .u64 v3)))
    have HZ6 : Hid (Blk w6 rs #[.int .u64 0, .int .u64 0, .int .u64 0, .bool false, .int .u64 0, .int .u64 0, .int .u64 0, .slice none 0 0, .slice none 0 0, .bool false, .bool false, .int .i64 0] 32) := Lib.hid (by rw [← hw6]; exact (((Keeps.refl (fun k => k = fb) w5).put 1 (.int .u64 v2)).put 5 (.int .u64 v3)).blk HZ5.out HFB.out.1)
    have HL6 : Hid (Blk w6 fb #[.int .u64 5, .int .u64 v2, .int .u64 0, .bool false, .int .u64 0, .int .u64 v3, .int .u64 0, .slice none 0 0, .slice none 0 0, .bool false, .bool false, .int .i64 0] 32) := Lib.hid (by rw [← hw6]; exact ((HL5.out.set 1 (.int .u64 v2)).set 5 (.int .u64 v3)).as rfl)
    clear hw6
    clear HR5 HK5 HZ5 HL5
    have HD : Hid (DD = some (⟨5, v2, 0, false, 0, v3, 0, [], [], false, false, 0⟩, ys3)) := Lib.hid (by rw [← HDD.out]; show stoD ys1 = _; unfold stoD; simp only [pb, HQ2.out, HQ3.out, Bool.false_eq_true, if_false, if_true, ite_true, ite_false])
    obtain ⟨x0, x1, x2, x3, x4, x5, x6, x7, x8, x9, x10, x11⟩ := q12_cells HL6.out
    obtain ⟨t0, t1, t2, t3, t4, t5, t6, t7, t8, t9, t10, t11⟩ := q12_cells HZ6.out
    obtain ⟨z0, z1, z2, z3, z4, z5, z6, z7, z8, z9, z10, z11⟩ := q12_free HZ6.out
    go_wp2_with fail
    refine bodyPost_ret (v := ?_) ?_ (by kernel_rfl) ?_
    rotate_left
    ·exact frame_results _ _ rs (by kernel_rfl) (qs_blk HZ6.out _ _ _ _ _ _ _ _ _ _ _ _)
    refine ⟨qs_keep HK6.out (fun h => absurd h (by have := HRS.out; omega)) _ _ _ _ _ _ _ _ _ _ _ _, ?_⟩
    rw [HD.out]
    refine ⟨p3, _, rfl, ⟨_, ?_, rfl, Qn.plain _ _ _ _ _ _ _ _ _ _ _ _ ⟨by omega, by omega⟩ HU2.out inU_0 inU_0 HU3.out inU_0 inU_0 (by omega)⟩, HR6.out.keep (qs_keep (S := fun k => k = rs) (Keeps.refl _ _) (fun _ => rfl) _ _ _ _ _ _ _ _ _ _ _ _) (fun h => HNZ.out h.symm) (fun b hb h => by have h1 := HLT.out b hb; have h2 := HRS.out; omega)⟩
    rfl
 by_cases h6 : t = 6
 ·subst h6
  go_wp2_with fail
  refine (num_any rb a m cap xs p1 ys1 w3 HR3.out).mono ?_
  rintro e w4 ⟨hk, hr⟩
  have HK4 := Lib.hid (HK3.out.trans hk)
  have HZ4 := Lib.hid (hk.blk HZ3.out HNZ.out)
  have HL4 := Lib.hid (hk.blk HL3.out HNL.out)
  have HSZ4 : Hid (w3.heap.size ≤ w4.heap.size) := Lib.hid hk.size
  clear hk
  cases hq2 : pn ys1 with
  | none =>
   rw [hq2] at hr
   have hr' : e = .panicked [{ v := stopV, recovered := false }] := hr
   subst hr'
   have HQ2 := Lib.hid hq2
   clear hr hq2
   have HD : Hid (DD = none) := Lib.hid (by rw [← HDD.out]; show cryD ys1 = _; unfold cryD; simp only [pb, HQ2.out, Bool.false_eq_true, if_false, if_true, ite_true, ite_false])
   go_wp2_with fail
   refine ⟨rfl, ?_⟩
   rw [HD.out]
   exact ReP.panic HK4.out
  | some x =>
   obtain ⟨v2, ys2⟩ := x
   rw [hq2] at hr
   obtain ⟨p2, val, rfl, rfl, hr⟩ := hr
   have hbd := pn_bd hq2
   have HU2 : Hid (inU v2) := Lib.hid ⟨hbd.1, by omega⟩
   have HV2 : Hid (0 ≤ v2 ∧ v2 ≤ 4611686018427387903) := Lib.hid ⟨hbd.1, hbd.2.1⟩
   have HQ2 := Lib.hid hq2
   have HR4 := Lib.hid hr
   clear hr hq2 hbd
   clear HR3 HK3 HZ3 HL3
   have x2 : w4.cell? ⟨fb, 2, none⟩ = some (.int .u64 0) := HL4.out.cell 2
   have y2 : w4.frozen? ⟨fb, 2, none⟩ = false := HL4.out.free 2
   go_wp2_with fail
   clear x2 y2
   refine calls_named ?_
   intro w5 hw5
   have HR5 : Hid (Re w5 rb a m cap xs p2 ys2) := Lib.hid (by rw [← hw5]; exact HR4.out.keep ((Keeps.refl (fun k => k = fb) w4).put 2 (.int .u64 v2)) (fun h => HNL.out h.symm) (fun b hb h => by have := HLT.out b hb; have := HFB.out.2; omega))
   have HK5 : Hid (Keeps (fun k => k = rb) w w5) := Lib.hid (by rw [← hw5]; exact (HK4.out.setCell (p := ⟨fb, 2, none⟩) (fun h => absurd h (by have := HFB.out.2; dsimp only; omega)) (.int .u64 v2)))
   have HZ5 : Hid (Blk w5 rs #[.int .u64 0, .int .u64 0, .int .u64 0, .bool false, .int .u64 0, .int .u64 0, .int .u64 0, .slice none 0 0, .slice none 0 0, .bool false, .bool false, .int .i64 0] 32) := Lib.hid (by rw [← hw5]; exact ((Keeps.refl (fun k => k = fb) w4).put 2 (.int .u64 v2)).blk HZ4.out HFB.out.1)
   have HL5 : Hid (Blk w5 fb #[.int .u64 6, .int .u64 0, .int .u64 v2, .bool false, .int .u64 0, .int .u64 0, .int .u64 0, .slice none 0 0, .slice none 0 0, .bool false, .bool false, .int .i64 0] 32) := Lib.hid (by rw [← hw5]; exact (HL4.out.set 2 (.int .u64 v2)).as rfl)
   clear hw5
   clear HR4 HK4 HZ4 HL4
   refine (rtext_any rb a m cap xs p2 ys2 w5 HR5.out).mono ?_
   rintro e w6 ⟨hk, hr⟩
   have HK6 := Lib.hid (HK5.out.trans hk)
   have HZ6 := Lib.hid (hk.blk HZ5.out HNZ.out)
   have HL6 := Lib.hid (hk.blk HL5.out HNL.out)
   have HSZ6 : Hid (w5.heap.size ≤ w6.heap.size) := Lib.hid hk.size
   clear hk
   cases hq3 : ptx ys2 with
   | none =>
    rw [hq3] at hr
    have hr' : e = .panicked [{ v := stopV, recovered := false }] := hr
    subst hr'
    have HQ3 := Lib.hid hq3
    clear hr hq3
    have HD : Hid (DD = none) := Lib.hid (by rw [← HDD.out]; show cryD ys1 = _; unfold cryD; simp only [pb, HQ2.out, HQ3.out, Bool.false_eq_true, if_false, if_true, ite_true, ite_false])
    go_wp2_with fail
    refine ⟨rfl, ?_⟩
    rw [HD.out]
    exact ReP.panic HK6.out
   | some x =>
    obtain ⟨bs, ys3⟩ := x
    rw [hq3] at hr
    obtain ⟨p3, val, rfl, ⟨a8, n8, c8, rfl, ho⟩, hr⟩ := hr
    have HQ3 := Lib.hid hq3
    have HR6 := Lib.hid hr
    have HO6 : Hid (Bo w5.heap.size w6 a8 n8 c8 bs) := Lib.hid ho
    have HOB : Hid (fb < w5.heap.size) := Lib.hid HL5.out.lt
    have HRB : Hid (rb < w5.heap.size) := Lib.hid HR5.out.k.lt
    have HOW : Hid (w.heap.size ≤ w5.heap.size) := Lib.hid HK5.out.size
    have HOR : Hid (rs < w5.heap.size) := Lib.hid HZ5.out.lt
    have HBL : Hid (bs.length ≤ 1000000) := Lib.hid (by have h1 := ptx_bd hq3; have h2 := HR5.out.len; omega)
    clear hr hq3 ho
    clear HR5 HK5 HZ5 HL5
    have x8 : w6.cell? ⟨fb, 8, none⟩ = some (.slice none 0 0) := HL6.out.cell 8
    have y8 : w6.frozen? ⟨fb, 8, none⟩ = false := HL6.out.free 8
    go_upto_region 22 with fail
    clear x8 y8
    refine wp_named ?_
    intro w7 hw7
    have HR7 : Hid (Re w7 rb a m cap xs p3 ys3) := Lib.hid (by rw [← hw7]; exact HR6.out.keep ((Keeps.refl (fun k => k = fb) w6).put 8 (.slice a8 n8 c8)) (fun h => HNL.out h.symm) (fun b hb h => by have := HLT.out b hb; have := HFB.out.2; omega))
    have HK7 : Hid (Keeps (fun k => k = rb) w w7) := Lib.hid (by rw [← hw7]; exact (HK6.out.setCell (p := ⟨fb, 8, none⟩) (fun h => absurd h (by have := HFB.out.2; dsimp only; omega)) (.slice a8 n8 c8)))
    have HZ7 : Hid (Blk w7 rs #[.int .u64 0, .int .u64 0, .int .u64 0, .bool false, .int .u64 0, .int .u64 0, .int .u64 0, .slice none 0 0, .slice none 0 0, .bool false, .bool false, .int .i64 0] 32) := Lib.hid (by rw [← hw7]; exact ((Keeps.refl (fun k => k = fb) w6).put 8 (.slice a8 n8 c8)).blk HZ6.out HFB.out.1)
    have HL7 : Hid (Blk w7 fb #[.int .u64 6, .int .u64 0, .int .u64 v2, .bool false, .int .u64 0, .int .u64 0, .int .u64 0, .slice none 0 0, .slice a8 n8 c8, .bool false, .bool false, .int .i64 0] 32) := Lib.hid (by rw [← hw7]; exact (HL6.out.set 8 (.slice a8 n8 c8)).as rfl)
    have HO7 : Hid (Bo w5.heap.size w7 a8 n8 c8 bs) := Lib.hid (by rw [← hw7]; exact HO6.out.keep ((Keeps.refl (fun k => k = fb) w6).put 8 (.slice a8 n8 c8)) (fun b hb h => by have h1 := (HO6.out.ge b hb).1; have h2 := HOB.out; omega))
    clear hw7
    clear HR6 HK6 HZ6 HL6 HO6
    have x8 : w7.cell? ⟨fb, 8, none⟩ = some (.slice a8 n8 c8) := HL7.out.cell 8
    have x2 : w7.cell? ⟨fb, 2, none⟩ = some (.int .u64 v2) := HL7.out.cell 2
    go_wp2_with fail
    clear x8 x2
    have HN8 : Hid (n8 = bs.length) := Lib.hid HO7.out.1
    have hn8 : n8 ≤ 1000000 := by have h1 := HBL.out; have h2 := HN8.out; omega
    refine (end_any v2 n8 w7 (by have := HV2.out; omega) (by have := HV2.out; omega) hn8).mono ?_
    rintro e w8 ⟨he, rfl⟩
    cases hen : endB v2 n8 with
    | false =>
     have HEN : Hid (endB v2 bs.length = false) := Lib.hid (by rw [← HN8.out]; exact hen)
     rw [hen, if_neg (by decide)] at he
     subst he
     clear hen
     have HD : Hid (DD = none) := Lib.hid (by rw [← HDD.out]; show cryD ys1 = _; unfold cryD; simp only [pb, HQ2.out, HQ3.out, HEN.out, Bool.false_eq_true, if_false, if_true, ite_true, ite_false])
     go_wp2_with fail
     refine ⟨rfl, ?_⟩
     rw [HD.out]
     exact ReP.panic HK7.out
    | true =>
     have HEN : Hid (endB v2 bs.length = true) := Lib.hid (by rw [← HN8.out]; exact hen)
     rw [hen, if_pos rfl] at he
     subst he
     clear hen
     go_upto_region 26 with fail
     have HD : Hid (DD = some (⟨6, 0, v2, false, 0, 0, 0, [], bs, false, false, 0⟩, ys3)) := Lib.hid (by rw [← HDD.out]; show cryD ys1 = _; unfold cryD; simp only [pb, HQ2.out, HQ3.out, HEN.out, Bool.false_eq_true, if_false, if_true, ite_true, ite_false])
     obtain ⟨x0, x1, x2, x3, x4, x5, x6, x7, x8, x9, x10, x11⟩ := q12_cells HL7.out
     obtain ⟨t0, t1, t2, t3, t4, t5, t6, t7, t8, t9, t10, t11⟩ := q12_cells HZ7.out
     obtain ⟨z0, z1, z2, z3, z4, z5, z6, z7, z8, z9, z10, z11⟩ := q12_free HZ7.out
     go_wp2_with fail
     refine bodyPost_ret (v := ?_) ?_ (by kernel_rfl) ?_
     rotate_left
     ·exact frame_results _ _ rs (by kernel_rfl) (qs_blk HZ7.out _ _ _ _ _ _ _ _ _ _ _ _)
     refine ⟨qs_keep HK7.out (fun h => absurd h (by have := HRS.out; omega)) _ _ _ _ _ _ _ _ _ _ _ _, ?_⟩
     rw [HD.out]
     refine ⟨p3, _, rfl, ⟨_, ?_, rfl, Qn.bytes _ _ _ _ _ _ _ _ _ _ ⟨by omega, by omega⟩ inU_0 HU2.out inU_0 inU_0 _ _ _ _ ((HO7.out.keep (qs_keep (S := fun k => k = rs) (Keeps.refl _ _) (fun _ => rfl) _ _ _ _ _ _ _ _ _ _ _ _) (fun b hb h => by have h1 := (HO7.out.ge b hb).1; have h2 := HOR.out; omega)).mono HOW.out)⟩, HR7.out.keep (qs_keep (S := fun k => k = rs) (Keeps.refl _ _) (fun _ => rfl) _ _ _ _ _ _ _ _ _ _ _ _) (fun h => HNZ.out h.symm) (fun b hb h => by have h1 := HLT.out b hb; have h2 := HRS.out; omega)⟩
     rfl
 by_cases h7 : t = 7
 ·subst h7
  go_wp2_with fail
  refine (rtext_any rb a m cap xs p1 ys1 w3 HR3.out).mono ?_
  rintro e w4 ⟨hk, hr⟩
  have HK4 := Lib.hid (HK3.out.trans hk)
  have HZ4 := Lib.hid (hk.blk HZ3.out HNZ.out)
  have HL4 := Lib.hid (hk.blk HL3.out HNL.out)
  have HSZ4 : Hid (w3.heap.size ≤ w4.heap.size) := Lib.hid hk.size
  clear hk
  cases hq2 : ptx ys1 with
  | none =>
   rw [hq2] at hr
   have hr' : e = .panicked [{ v := stopV, recovered := false }] := hr
   subst hr'
   have HQ2 := Lib.hid hq2
   clear hr hq2
   have HD : Hid (DD = none) := Lib.hid (by rw [← HDD.out]; show tokD ys1 = _; unfold tokD; simp only [pb, HQ2.out, Bool.false_eq_true, if_false, if_true, ite_true, ite_false])
   go_wp2_with fail
   refine ⟨rfl, ?_⟩
   rw [HD.out]
   exact ReP.panic HK4.out
  | some x =>
   obtain ⟨bs, ys2⟩ := x
   rw [hq2] at hr
   obtain ⟨p2, val, rfl, ⟨a8, n8, c8, rfl, ho⟩, hr⟩ := hr
   have HQ2 := Lib.hid hq2
   have HR4 := Lib.hid hr
   have HO4 : Hid (Bo w3.heap.size w4 a8 n8 c8 bs) := Lib.hid ho
   have HOB : Hid (fb < w3.heap.size) := Lib.hid HL3.out.lt
   have HRB : Hid (rb < w3.heap.size) := Lib.hid HR3.out.k.lt
   have HOW : Hid (w.heap.size ≤ w3.heap.size) := Lib.hid HK3.out.size
   have HOR : Hid (rs < w3.heap.size) := Lib.hid HZ3.out.lt
   have HBL : Hid (bs.length ≤ 1000000) := Lib.hid (by have h1 := ptx_bd hq2; have h2 := HR3.out.len; omega)
   clear hr hq2 ho
   clear HR3 HK3 HZ3 HL3
   have x8 : w4.cell? ⟨fb, 8, none⟩ = some (.slice none 0 0) := HL4.out.cell 8
   have y8 : w4.frozen? ⟨fb, 8, none⟩ = false := HL4.out.free 8
   go_upto_region 25 with fail
   clear x8 y8
   refine wp_named ?_
   intro w5 hw5
   have HR5 : Hid (Re w5 rb a m cap xs p2 ys2) := Lib.hid (by rw [← hw5]; exact HR4.out.keep ((Keeps.refl (fun k => k = fb) w4).put 8 (.slice a8 n8 c8)) (fun h => HNL.out h.symm) (fun b hb h => by have := HLT.out b hb; have := HFB.out.2; omega))
   have HK5 : Hid (Keeps (fun k => k = rb) w w5) := Lib.hid (by rw [← hw5]; exact (HK4.out.setCell (p := ⟨fb, 8, none⟩) (fun h => absurd h (by have := HFB.out.2; dsimp only; omega)) (.slice a8 n8 c8)))
   have HZ5 : Hid (Blk w5 rs #[.int .u64 0, .int .u64 0, .int .u64 0, .bool false, .int .u64 0, .int .u64 0, .int .u64 0, .slice none 0 0, .slice none 0 0, .bool false, .bool false, .int .i64 0] 32) := Lib.hid (by rw [← hw5]; exact ((Keeps.refl (fun k => k = fb) w4).put 8 (.slice a8 n8 c8)).blk HZ4.out HFB.out.1)
   have HL5 : Hid (Blk w5 fb #[.int .u64 7, .int .u64 0, .int .u64 0, .bool false, .int .u64 0, .int .u64 0, .int .u64 0, .slice none 0 0, .slice a8 n8 c8, .bool false, .bool false, .int .i64 0] 32) := Lib.hid (by rw [← hw5]; exact (HL4.out.set 8 (.slice a8 n8 c8)).as rfl)
   have HO5 : Hid (Bo w3.heap.size w5 a8 n8 c8 bs) := Lib.hid (by rw [← hw5]; exact HO4.out.keep ((Keeps.refl (fun k => k = fb) w4).put 8 (.slice a8 n8 c8)) (fun b hb h => by have h1 := (HO4.out.ge b hb).1; have h2 := HOB.out; omega))
   clear hw5
   clear HR4 HK4 HZ4 HL4 HO4
   have x8 : w5.cell? ⟨fb, 8, none⟩ = some (.slice a8 n8 c8) := HL5.out.cell 8
   have HN8 : Hid (n8 = bs.length) := Lib.hid HO5.out.1
   by_cases hm : 0 < n8
   rotate_left
   ·have HM : Hid (bs.length = 0) := Lib.hid (by have h2 := HN8.out; omega)
    have hmd : decide ((0 : Int) < (n8 : Int)) = false := by simp; omega
    have hmd2 : decide (0 < n8) = false := by simp; omega
    clear hm
    go_wp2_with fail
    refine (must_no _).mono ?_
    rintro e w99 ⟨rfl, rfl⟩
    clear hmd hmd2 x8
    have HD : Hid (DD = none) := Lib.hid (by rw [← HDD.out]; show tokD ys1 = _; unfold tokD; simp only [pb, HQ2.out, Bool.false_eq_true, if_false, if_true, ite_true, ite_false, HM.out, Nat.lt_irrefl])
    go_wp2_with fail
    refine ⟨rfl, ?_⟩
    rw [HD.out]
    exact ReP.panic HK5.out
   have HM : Hid (0 < bs.length) := Lib.hid (by have h2 := HN8.out; omega)
   have hmd : decide ((0 : Int) < (n8 : Int)) = true := by simp; omega
   have hmd2 : decide (0 < n8) = true := by simp; omega
   go_wp2_with fail
   refine (must_ok _).mono ?_
   rintro e w99 ⟨rfl, rfl⟩
   clear hmd hmd2 x8 hm
   go_upto_region 26 with fail
   have HD : Hid (DD = some (⟨7, 0, 0, false, 0, 0, 0, [], bs, false, false, 0⟩, ys2)) := Lib.hid (by rw [← HDD.out]; show tokD ys1 = _; unfold tokD; simp only [pb, HQ2.out, Bool.false_eq_true, if_false, if_true, ite_true, ite_false, if_pos HM.out])
   obtain ⟨x0, x1, x2, x3, x4, x5, x6, x7, x8, x9, x10, x11⟩ := q12_cells HL5.out
   obtain ⟨t0, t1, t2, t3, t4, t5, t6, t7, t8, t9, t10, t11⟩ := q12_cells HZ5.out
   obtain ⟨z0, z1, z2, z3, z4, z5, z6, z7, z8, z9, z10, z11⟩ := q12_free HZ5.out
   go_wp2_with fail
   refine bodyPost_ret (v := ?_) ?_ (by kernel_rfl) ?_
   rotate_left
   ·exact frame_results _ _ rs (by kernel_rfl) (qs_blk HZ5.out _ _ _ _ _ _ _ _ _ _ _ _)
   refine ⟨qs_keep HK5.out (fun h => absurd h (by have := HRS.out; omega)) _ _ _ _ _ _ _ _ _ _ _ _, ?_⟩
   rw [HD.out]
   refine ⟨p2, _, rfl, ⟨_, ?_, rfl, Qn.bytes _ _ _ _ _ _ _ _ _ _ ⟨by omega, by omega⟩ inU_0 inU_0 inU_0 inU_0 _ _ _ _ ((HO5.out.keep (qs_keep (S := fun k => k = rs) (Keeps.refl _ _) (fun _ => rfl) _ _ _ _ _ _ _ _ _ _ _ _) (fun b hb h => by have h1 := (HO5.out.ge b hb).1; have h2 := HOR.out; omega)).mono HOW.out)⟩, HR5.out.keep (qs_keep (S := fun k => k = rs) (Keeps.refl _ _) (fun _ => rfl) _ _ _ _ _ _ _ _ _ _ _ _) (fun h => HNZ.out h.symm) (fun b hb h => by have h1 := HLT.out b hb; have h2 := HRS.out; omega)⟩
   rfl
 by_cases h0 : t = 0
 ·subst h0
  go_wp2_with fail
  refine (padding_any rb a m cap xs p1 ys1 w3 HR3.out (fun b hb => Nat.lt_of_lt_of_le (HLT.out b hb) HK3.out.size)).mono ?_
  rintro e w4 ⟨hk, hr⟩
  have HK4 := Lib.hid (HK3.out.trans hk)
  have HZ4 := Lib.hid (hk.blk HZ3.out HNZ.out)
  have HWR : Hid (w.heap.size ≤ w3.heap.size ∧ rs < w3.heap.size) := Lib.hid ⟨HK3.out.size, HZ3.out.lt⟩
  clear hk
  cases hq2 : padD ys1 with
  | none =>
   rw [hq2] at hr
   have hr' : e = .panicked [{ v := stopV, recovered := false }] := hr
   subst hr'
   have HD : Hid (DD = _) := Lib.hid (HDD.out.symm.trans (show decT _ ys1 = _ from hq2))
   clear hr hq2
   go_wp2_with fail
   refine ⟨rfl, ?_⟩
   try rw [HD.out]
   exact ReP.panic HK4.out
  | some x =>
   obtain ⟨c, y⟩ := x
   rw [hq2] at hr
   obtain ⟨p2, val, rfl, ⟨f, hfc, rfl, hqn⟩, hr⟩ := hr
   have HD : Hid (DD = _) := Lib.hid (HDD.out.symm.trans (show decT _ ys1 = _ from hq2))
   have HFC := Lib.hid hfc
   have HQN := Lib.hid hqn
   have HR4 := Lib.hid hr
   clear hr hq2 hqn hfc
   obtain ⟨t0, t1, t2, t3, t4, t5, t6, t7, t8, t9, t10, t11⟩ := q12_cells HZ4.out
   obtain ⟨z0, z1, z2, z3, z4, z5, z6, z7, z8, z9, z10, z11⟩ := q12_free HZ4.out
   unfold Qf.cs
   go_wp2_with fail
   refine bodyPost_ret (v := ?_) ?_ (by kernel_rfl) ?_
   rotate_left
   ·exact frame_results _ _ rs (by kernel_rfl) (qs_blk HZ4.out _ _ _ _ _ _ _ _ _ _ _ _)
   refine ⟨qs_keep HK4.out (fun h => absurd h (by have := HRS.out; omega)) _ _ _ _ _ _ _ _ _ _ _ _, ?_⟩
   try rw [HD.out]
   refine ⟨p2, _, rfl, ⟨f, HFC.out, rfl, (HQN.out.keep (qs_keep (S := fun k => k = rs) (Keeps.refl _ _) (fun _ => rfl) _ _ _ _ _ _ _ _ _ _ _ _) (fun b hb h => by have h1 := HWR.out; omega)).mono HWR.out.1⟩, HR4.out.keep (qs_keep (S := fun k => k = rs) (Keeps.refl _ _) (fun _ => rfl) _ _ _ _ _ _ _ _ _ _ _ _) (fun h => HNZ.out h.symm) (fun b hb h => by have h1 := HLT.out b hb; have h2 := HRS.out; omega)⟩
 by_cases h2 : t = 2
 ·subst h2
  go_wp2_with fail
  refine (racka_any rb a m cap xs p1 ys1 w3 HR3.out (fun b hb => Nat.lt_of_lt_of_le (HLT.out b hb) HK3.out.size)).mono ?_
  rintro e w4 ⟨hk, hr⟩
  have HK4 := Lib.hid (HK3.out.trans hk)
  have HZ4 := Lib.hid (hk.blk HZ3.out HNZ.out)
  have HWR : Hid (w.heap.size ≤ w3.heap.size ∧ rs < w3.heap.size) := Lib.hid ⟨HK3.out.size, HZ3.out.lt⟩
  clear hk
  cases hq2 : ackD ys1 with
  | none =>
   rw [hq2] at hr
   have hr' : e = .panicked [{ v := stopV, recovered := false }] := hr
   subst hr'
   have HD : Hid (DD = _) := Lib.hid (HDD.out.symm.trans (show decT _ ys1 = _ from hq2))
   clear hr hq2
   go_wp2_with fail
   refine ⟨rfl, ?_⟩
   try rw [HD.out]
   exact ReP.panic HK4.out
  | some x =>
   obtain ⟨c, y⟩ := x
   rw [hq2] at hr
   obtain ⟨p2, val, rfl, ⟨f, hfc, rfl, hqn⟩, hr⟩ := hr
   have HD : Hid (DD = _) := Lib.hid (HDD.out.symm.trans (show decT _ ys1 = _ from hq2))
   have HFC := Lib.hid hfc
   have HQN := Lib.hid hqn
   have HR4 := Lib.hid hr
   clear hr hq2 hqn hfc
   obtain ⟨t0, t1, t2, t3, t4, t5, t6, t7, t8, t9, t10, t11⟩ := q12_cells HZ4.out
   obtain ⟨z0, z1, z2, z3, z4, z5, z6, z7, z8, z9, z10, z11⟩ := q12_free HZ4.out
   unfold Qf.cs
   go_wp2_with fail
   refine bodyPost_ret (v := ?_) ?_ (by kernel_rfl) ?_
   rotate_left
   ·exact frame_results _ _ rs (by kernel_rfl) (qs_blk HZ4.out _ _ _ _ _ _ _ _ _ _ _ _)
   refine ⟨qs_keep HK4.out (fun h => absurd h (by have := HRS.out; omega)) _ _ _ _ _ _ _ _ _ _ _ _, ?_⟩
   try rw [HD.out]
   refine ⟨p2, _, rfl, ⟨f, HFC.out, rfl, (HQN.out.keep (qs_keep (S := fun k => k = rs) (Keeps.refl _ _) (fun _ => rfl) _ _ _ _ _ _ _ _ _ _ _ _) (fun b hb h => by have h1 := HWR.out; omega)).mono HWR.out.1⟩, HR4.out.keep (qs_keep (S := fun k => k = rs) (Keeps.refl _ _) (fun _ => rfl) _ _ _ _ _ _ _ _ _ _ _ _) (fun h => HNZ.out h.symm) (fun b hb h => by have h1 := HLT.out b hb; have h2 := HRS.out; omega)⟩
 have e0 : (t == 0) = false := by simp [h0]
 have e1 : (t == 1) = false := by simp [h1]
 have e30 : (t == 30) = false := by simp [h30]
 have e2 : (t == 2) = false := by simp [h2]
 have e4 : (t == 4) = false := by simp [h4]
 have e5 : (t == 5) = false := by simp [h5]
 have e6 : (t == 6) = false := by simp [h6]
 have e7 : (t == 7) = false := by simp [h7]
 by_cases h8 : 8 ≤ t
 ·have g1 : decide ((8 : Int) ≤ t) = true := decide_eq_true h8
  by_cases h15 : t ≤ 15
  ·have g2 : decide (t < 16) = true := decide_eq_true (by omega)
   have H8 := Lib.hid h8
   have H15 := Lib.hid h15
   clear h8 h15
   go_wp2_with fail
   refine (rstream_any rb a m cap xs p1 ys1 w3 HR3.out (fun b hb => Nat.lt_of_lt_of_le (HLT.out b hb) HK3.out.size) t (by have := H8.out; omega) (by have := H15.out; omega)).mono ?_
   rintro e w4 ⟨hk, hr⟩
   have HK4 := Lib.hid (HK3.out.trans hk)
   have HZ4 := Lib.hid (hk.blk HZ3.out HNZ.out)
   have HWR : Hid (w.heap.size ≤ w3.heap.size ∧ rs < w3.heap.size) := Lib.hid ⟨HK3.out.size, HZ3.out.lt⟩
   clear hk
   cases hq2 : decT t ys1 with
   | none =>
    rw [hq2] at hr
    have hr' : e = .panicked [{ v := stopV, recovered := false }] := hr
    subst hr'
    have HD : Hid (DD = _) := Lib.hid (HDD.out.symm.trans (show decT _ ys1 = _ from hq2))
    clear hr hq2
    go_wp2_with fail
    refine ⟨rfl, ?_⟩
    try rw [HD.out]
    exact ReP.panic HK4.out
   | some x =>
    obtain ⟨c, y⟩ := x
    rw [hq2] at hr
    obtain ⟨p2, val, rfl, ⟨f, hfc, rfl, hqn⟩, hr⟩ := hr
    have HD : Hid (DD = _) := Lib.hid (HDD.out.symm.trans (show decT _ ys1 = _ from hq2))
    have HFC := Lib.hid hfc
    have HQN := Lib.hid hqn
    have HR4 := Lib.hid hr
    clear hr hq2 hqn hfc
    obtain ⟨t0, t1, t2, t3, t4, t5, t6, t7, t8, t9, t10, t11⟩ := q12_cells HZ4.out
    obtain ⟨z0, z1, z2, z3, z4, z5, z6, z7, z8, z9, z10, z11⟩ := q12_free HZ4.out
    unfold Qf.cs
    go_wp2_with fail
    refine bodyPost_ret (v := ?_) ?_ (by kernel_rfl) ?_
    rotate_left
    ·exact frame_results _ _ rs (by kernel_rfl) (qs_blk HZ4.out _ _ _ _ _ _ _ _ _ _ _ _)
    refine ⟨qs_keep HK4.out (fun h => absurd h (by have := HRS.out; omega)) _ _ _ _ _ _ _ _ _ _ _ _, ?_⟩
    try rw [HD.out]
    refine ⟨p2, _, rfl, ⟨f, HFC.out, rfl, (HQN.out.keep (qs_keep (S := fun k => k = rs) (Keeps.refl _ _) (fun _ => rfl) _ _ _ _ _ _ _ _ _ _ _ _) (fun b hb h => by have h1 := HWR.out; omega)).mono HWR.out.1⟩, HR4.out.keep (qs_keep (S := fun k => k = rs) (Keeps.refl _ _) (fun _ => rfl) _ _ _ _ _ _ _ _ _ _ _ _) (fun h => HNZ.out h.symm) (fun b hb h => by have h1 := HLT.out b hb; have h2 := HRS.out; omega)⟩
  have g2 : decide (t < 16) = false := decide_eq_false (by omega)
  have HTO : Hid (decT t ys1 = othD t ys1) := Lib.hid (by unfold decT; repeat rw [if_neg (by omega)])
  have x0 : w3.cell? ⟨fb, 0, none⟩ = some (.int .u64 t) := HL3.out.cell 0
  have x1 : w3.cell? ⟨fb, 1, none⟩ = some (.int .u64 0) := HL3.out.cell 1
  have x2 : w3.cell? ⟨fb, 2, none⟩ = some (.int .u64 0) := HL3.out.cell 2
  have x3 : w3.cell? ⟨fb, 3, none⟩ = some (.bool false) := HL3.out.cell 3
  have x4 : w3.cell? ⟨fb, 4, none⟩ = some (.int .u64 0) := HL3.out.cell 4
  have x5 : w3.cell? ⟨fb, 5, none⟩ = some (.int .u64 0) := HL3.out.cell 5
  have x6 : w3.cell? ⟨fb, 6, none⟩ = some (.int .u64 0) := HL3.out.cell 6
  have x7 : w3.cell? ⟨fb, 7, none⟩ = some (.slice none 0 0) := HL3.out.cell 7
  have x8 : w3.cell? ⟨fb, 8, none⟩ = some (.slice none 0 0) := HL3.out.cell 8
  have x9 : w3.cell? ⟨fb, 9, none⟩ = some (.bool false) := HL3.out.cell 9
  have x10 : w3.cell? ⟨fb, 10, none⟩ = some (.bool false) := HL3.out.cell 10
  have x11 : w3.cell? ⟨fb, 11, none⟩ = some (.int .i64 0) := HL3.out.cell 11
  go_wp2_with fail
  clear x0 x1 x2 x3 x4 x5 x6 x7 x8 x9 x10 x11
  refine (otherr_any rb a m cap xs p1 ys1 t w3 HR3.out (fun b hb => Nat.lt_of_lt_of_le (HLT.out b hb) HK3.out.size)).mono ?_
  rintro e w4 ⟨hk, hr⟩
  have HK4 := Lib.hid (HK3.out.trans hk)
  have HZ4 := Lib.hid (hk.blk HZ3.out HNZ.out)
  have HWR : Hid (w.heap.size ≤ w3.heap.size ∧ rs < w3.heap.size) := Lib.hid ⟨HK3.out.size, HZ3.out.lt⟩
  clear hk
  cases hq2 : othD t ys1 with
  | none =>
   rw [hq2] at hr
   have hr' : e = .panicked [{ v := stopV, recovered := false }] := hr
   subst hr'
   have HD : Hid (DD = _) := Lib.hid (HDD.out.symm.trans (show decT _ ys1 = _ from HTO.out.trans hq2))
   clear hr hq2
   go_wp2_with fail
   refine ⟨rfl, ?_⟩
   try rw [HD.out]
   exact ReP.panic HK4.out
  | some x =>
   obtain ⟨c, y⟩ := x
   rw [hq2] at hr
   obtain ⟨p2, val, rfl, ⟨f, hfc, rfl, hqn⟩, hr⟩ := hr
   have HD : Hid (DD = _) := Lib.hid (HDD.out.symm.trans (show decT _ ys1 = _ from HTO.out.trans hq2))
   have HFC := Lib.hid hfc
   have HQN := Lib.hid hqn
   have HR4 := Lib.hid hr
   clear hr hq2 hqn hfc
   obtain ⟨t0, t1, t2, t3, t4, t5, t6, t7, t8, t9, t10, t11⟩ := q12_cells HZ4.out
   obtain ⟨z0, z1, z2, z3, z4, z5, z6, z7, z8, z9, z10, z11⟩ := q12_free HZ4.out
   unfold Qf.cs
   go_wp2_with fail
   refine bodyPost_ret (v := ?_) ?_ (by kernel_rfl) ?_
   rotate_left
   ·exact frame_results _ _ rs (by kernel_rfl) (qs_blk HZ4.out _ _ _ _ _ _ _ _ _ _ _ _)
   refine ⟨qs_keep HK4.out (fun h => absurd h (by have := HRS.out; omega)) _ _ _ _ _ _ _ _ _ _ _ _, ?_⟩
   try rw [HD.out]
   refine ⟨p2, _, rfl, ⟨f, HFC.out, rfl, (HQN.out.keep (qs_keep (S := fun k => k = rs) (Keeps.refl _ _) (fun _ => rfl) _ _ _ _ _ _ _ _ _ _ _ _) (fun b hb h => by have h1 := HWR.out; omega)).mono HWR.out.1⟩, HR4.out.keep (qs_keep (S := fun k => k = rs) (Keeps.refl _ _) (fun _ => rfl) _ _ _ _ _ _ _ _ _ _ _ _) (fun h => HNZ.out h.symm) (fun b hb h => by have h1 := HLT.out b hb; have h2 := HRS.out; omega)⟩
 have g1 : decide ((8 : Int) ≤ t) = false := decide_eq_false (by omega)
 have HTO : Hid (decT t ys1 = othD t ys1) := Lib.hid (by unfold decT; repeat rw [if_neg (by omega)])
 have x0 : w3.cell? ⟨fb, 0, none⟩ = some (.int .u64 t) := HL3.out.cell 0
 have x1 : w3.cell? ⟨fb, 1, none⟩ = some (.int .u64 0) := HL3.out.cell 1
 have x2 : w3.cell? ⟨fb, 2, none⟩ = some (.int .u64 0) := HL3.out.cell 2
 have x3 : w3.cell? ⟨fb, 3, none⟩ = some (.bool false) := HL3.out.cell 3
 have x4 : w3.cell? ⟨fb, 4, none⟩ = some (.int .u64 0) := HL3.out.cell 4
 have x5 : w3.cell? ⟨fb, 5, none⟩ = some (.int .u64 0) := HL3.out.cell 5
 have x6 : w3.cell? ⟨fb, 6, none⟩ = some (.int .u64 0) := HL3.out.cell 6
 have x7 : w3.cell? ⟨fb, 7, none⟩ = some (.slice none 0 0) := HL3.out.cell 7
 have x8 : w3.cell? ⟨fb, 8, none⟩ = some (.slice none 0 0) := HL3.out.cell 8
 have x9 : w3.cell? ⟨fb, 9, none⟩ = some (.bool false) := HL3.out.cell 9
 have x10 : w3.cell? ⟨fb, 10, none⟩ = some (.bool false) := HL3.out.cell 10
 have x11 : w3.cell? ⟨fb, 11, none⟩ = some (.int .i64 0) := HL3.out.cell 11
 go_wp2_with fail
 clear x0 x1 x2 x3 x4 x5 x6 x7 x8 x9 x10 x11
 refine (otherr_any rb a m cap xs p1 ys1 t w3 HR3.out (fun b hb => Nat.lt_of_lt_of_le (HLT.out b hb) HK3.out.size)).mono ?_
 rintro e w4 ⟨hk, hr⟩
 have HK4 := Lib.hid (HK3.out.trans hk)
 have HZ4 := Lib.hid (hk.blk HZ3.out HNZ.out)
 have HWR : Hid (w.heap.size ≤ w3.heap.size ∧ rs < w3.heap.size) := Lib.hid ⟨HK3.out.size, HZ3.out.lt⟩
 clear hk
 cases hq2 : othD t ys1 with
 | none =>
  rw [hq2] at hr
  have hr' : e = .panicked [{ v := stopV, recovered := false }] := hr
  subst hr'
  have HD : Hid (DD = _) := Lib.hid (HDD.out.symm.trans (show decT _ ys1 = _ from HTO.out.trans hq2))
  clear hr hq2
  go_wp2_with fail
  refine ⟨rfl, ?_⟩
  try rw [HD.out]
  exact ReP.panic HK4.out
 | some x =>
  obtain ⟨c, y⟩ := x
  rw [hq2] at hr
  obtain ⟨p2, val, rfl, ⟨f, hfc, rfl, hqn⟩, hr⟩ := hr
  have HD : Hid (DD = _) := Lib.hid (HDD.out.symm.trans (show decT _ ys1 = _ from HTO.out.trans hq2))
  have HFC := Lib.hid hfc
  have HQN := Lib.hid hqn
  have HR4 := Lib.hid hr
  clear hr hq2 hqn hfc
  obtain ⟨t0, t1, t2, t3, t4, t5, t6, t7, t8, t9, t10, t11⟩ := q12_cells HZ4.out
  obtain ⟨z0, z1, z2, z3, z4, z5, z6, z7, z8, z9, z10, z11⟩ := q12_free HZ4.out
  unfold Qf.cs
  go_wp2_with fail
  refine bodyPost_ret (v := ?_) ?_ (by kernel_rfl) ?_
  rotate_left
  ·exact frame_results _ _ rs (by kernel_rfl) (qs_blk HZ4.out _ _ _ _ _ _ _ _ _ _ _ _)
  refine ⟨qs_keep HK4.out (fun h => absurd h (by have := HRS.out; omega)) _ _ _ _ _ _ _ _ _ _ _ _, ?_⟩
  try rw [HD.out]
  refine ⟨p2, _, rfl, ⟨f, HFC.out, rfl, (HQN.out.keep (qs_keep (S := fun k => k = rs) (Keeps.refl _ _) (fun _ => rfl) _ _ _ _ _ _ _ _ _ _ _ _) (fun b hb h => by have h1 := HWR.out; omega)).mono HWR.out.1⟩, HR4.out.keep (qs_keep (S := fun k => k = rs) (Keeps.refl _ _) (fun _ => rfl) _ _ _ _ _ _ _ _ _ _ _ _) (fun h => HNZ.out h.symm) (fun b hb h => by have h1 := HLT.out b hb; have h2 := HRS.out; omega)⟩

theorem rframe_any (rb : Nat) (a : Option Addr) (m cap : Nat) (xs : List UInt8) (p : Nat) (ys : List UInt8) (w : World) (hr : Re w rb a m cap xs p ys) (hlt : ∀ b, a.map (·.block) = some b → b < w.heap.size) :
  Calls Try.prog 28 #[.pointer (some ⟨rb, 0, none⟩)] w (ReP rb a m cap xs (vFrame w.heap.size) (decQ ys) w) := by
 cases hq : pn ys with
 | none => exact frame_nonr rb a m cap xs p ys w hq hr hlt
 | some x =>
  obtain ⟨t, ys1⟩ := x
  by_cases hl : rvL ys = varLenV t
  ·have hD : decQ ys = decT t ys1 := by unfold decQ; rw [pb_some _ hq, if_pos hl]
   rw [hD]
   exact frame_tr rb a m cap xs p ys t ys1 w hq hl hr hlt
  ·exact frame_badr rb a m cap xs p ys t ys1 w hq hl hr hlt

end Go.Proofs.Ytgfkgmmigbpciaa
