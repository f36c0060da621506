/- The reader of the package qframe: stream. -/
import Derived.Test.YtgfkgmmigbpciaaQrA
import Derived.Test.YtgfkgmmigbpciaaHeld
namespace Go.Proofs.Ytgfkgmmigbpciaa
set_option linter.unusedSimpArgs false
set_option linter.unusedVariables false
open Go.RowKit Go.Deep

theorem thenX_named {K : Act → World → Prop} {Q' : Exit → Act → World → Prop} {a : Act} {w : World} (h : ∀ w' : World, w = w' → Exit.then K Q' .normal a w') : Exit.then K Q' .normal a w := h w rfl

theorem rstream_results (fr : Array Value) (w : World) (b : Nat) {u0 u1 u2 u3 u4 u5 u6 u7 u8 u9 u10 u11 : Value} {t : TypeId} (h2 : fr[4]?.getD undef = .pointer (some ⟨b, 0, none⟩)) (hb : Blk w b #[u0, u1, u2, u3, u4, u5, u6, u7, u8, u9, u10, u11] t) :
  (results Try.f52 fr).run Try.prog w = .ok (.agg #[u0, u1, u2, u3, u4, u5, u6, u7, u8, u9, u10, u11]) w := by
 obtain ⟨s0, s1, s2, s3, s4, s5, s6, s7, s8, s9, s10, s11⟩ := q12_cells hb
 simp [results, Try.results52, go_sem, h2, s0, s1, s2, s3, s4, s5, s6, s7, s8, s9, s10, s11]

set_option maxRecDepth 100000 in
set_option maxHeartbeats 3200000 in
theorem rstream_8 (rb : Nat) (a : Option Addr) (m cap : Nat) (xs : List UInt8) (p : Nat) (ys : List UInt8) (w : World) (hr : Re w rb a m cap xs p ys) (hlt : ∀ b, a.map (·.block) = some b → b < w.heap.size) :
  Calls Try.prog 52 #[.pointer (some ⟨rb, 0, none⟩), .int .u64 8] w (ReP rb a m cap xs (vFrame w.heap.size) (strD false false false ys) w) := by
 have HLT := Lib.hid hlt
 have HR := Lib.hid hr
 have hlm : m ≤ 1000000 := hr.small
 have hrb := hr.k.lt
 have b1 : bits .and .u64 8 1 = 0 := by decide +kernel
 have b4 : bits .and .u64 8 4 = 0 := by decide +kernel
 have b2 : bits .and .u64 8 2 = 0 := by decide +kernel
 clear hr hlt
 go_enter Try.func52, Try.ntmps52
 go_wp2_with fail
 refine calls_named ?_
 intro w0 hw0
 have HR0 : Hid (Re w0 rb a m cap xs p ys) := Lib.hid (by rw [← hw0]; exact HR.out.same ((Keeps.refl _ _).alloc _))
 have HK0 : Hid (Keeps (fun k => k = rb) w w0) := Lib.hid (by rw [← hw0]; exact (Keeps.refl _ _).alloc _)
 have HZ0 : Hid (Blk w0 w.heap.size #[.int .u64 0, .int .u64 0, .int .u64 0, .bool false, .int .u64 0, .int .u64 0, .int .u64 0, .slice none 0 0, .slice none 0 0, .bool false, .bool false, .int .i64 0] 32) := Lib.hid (by rw [← hw0]; exact Blk.new _ _ _)
 obtain ⟨rs, hrs⟩ : ∃ rs, w.heap.size = rs := ⟨_, rfl⟩
 have HRS : Hid (w.heap.size ≤ rs) := Lib.hid (by omega)
 have HNZ : Hid (¬ rs = rb) := Lib.hid (by omega)
 rw [hrs] at HZ0 ⊢
 clear hw0 hrb HR hrs
 refine (num_any rb a m cap xs p ys w0 HR0.out).mono ?_
 rintro e w1 ⟨hk, hr⟩
 have HK1 := Lib.hid (HK0.out.trans hk)
 have HZ1 := Lib.hid (hk.blk HZ0.out HNZ.out)
 have HSZ1 : Hid (w0.heap.size ≤ w1.heap.size) := Lib.hid hk.size
 clear hk
 cases hq1 : pn ys with
 | none =>
  rw [hq1] at hr
  have hr' : e = .panicked [{ v := stopV, recovered := false }] := hr
  subst hr'
  have HQ1 := Lib.hid hq1
  clear hr hq1
  have HD : Hid (strD false false false ys = none) := Lib.hid (by unfold strD; simp only [pb, HQ1.out, Bool.false_eq_true, if_false, if_true, ite_true, ite_false])
  go_wp2_with fail
  refine ⟨rfl, ?_⟩
  rw [HD.out]
  exact ReP.panic HK1.out
 | some x =>
  obtain ⟨v1, ys1⟩ := x
  rw [hq1] at hr
  obtain ⟨p1, val, rfl, rfl, hr⟩ := hr
  have hbd := pn_bd hq1
  have HU1 : Hid (inU v1) := Lib.hid ⟨hbd.1, by omega⟩
  have HV1 : Hid (0 ≤ v1 ∧ v1 ≤ 4611686018427387903) := Lib.hid ⟨hbd.1, hbd.2.1⟩
  have HQ1 := Lib.hid hq1
  have HR1 := Lib.hid hr
  clear hr hq1 hbd
  clear HR0 HK0 HZ0
  go_wp2_with fail
  go_upto_region 6 with fail
  refine wp_named ?_
  intro w2 hw2
  have HR2 : Hid (Re w2 rb a m cap xs p1 ys1) := Lib.hid (by rw [← hw2]; exact HR1.out.same ((Keeps.refl _ _).alloc _))
  have HK2 : Hid (Keeps (fun k => k = rb) w w2) := Lib.hid (by rw [← hw2]; exact HK1.out.alloc _)
  have HZ2 : Hid (Blk w2 rs #[.int .u64 0, .int .u64 0, .int .u64 0, .bool false, .int .u64 0, .int .u64 0, .int .u64 0, .slice none 0 0, .slice none 0 0, .bool false, .bool false, .int .i64 0] 32) := Lib.hid (by rw [← hw2]; exact HZ1.out.alloc _)
  have HL2 : Hid (Blk w2 w1.heap.size #[.int .u64 8, .int .u64 v1, .int .u64 0, .bool false, .int .u64 0, .int .u64 0, .int .u64 0, .slice none 0 0, .slice none 0 0, .bool false, .bool false, .int .i64 0] 32) := Lib.hid (by rw [← hw2]; exact Blk.new _ _ _)
  have hfb0 : rs < w1.heap.size := HZ1.out.lt
  have hfb1 : w.heap.size ≤ w1.heap.size := HK1.out.size
  have hfb2 : rb < w1.heap.size := HR1.out.k.lt
  have HFL2 : Hid (w1.heap.size < w2.heap.size) := Lib.hid HL2.out.lt
  clear hw2 HR1 HK1 HZ1
  generalize w1.heap.size = fb at *
  have HNL : Hid (¬ fb = rb) := Lib.hid (by omega)
  have HFB : Hid (rs ≠ fb ∧ w.heap.size ≤ fb) := Lib.hid ⟨Nat.ne_of_lt hfb0, hfb1⟩
  clear hfb0 hfb1 hfb2
  have c0 : w2.cell? ⟨rb, 0, none⟩ = some (.slice a m cap) := HR2.out.k.cell 0
  have c1 : w2.cell? ⟨rb, 1, none⟩ = some (.int .i64 (p1 : Int)) := HR2.out.k.cell 1
  obtain ⟨L, hL⟩ : ∃ L : Nat, (m : Int) - (p1 : Int) = (L : Int) := ⟨m - p1, by have := HR2.out.le; omega⟩
  have HLm : Hid (L = m - p1) := Lib.hid (by omega)
  have HLY : Hid (ptk L ys1 = some (ys1, [])) := Lib.hid (by
   have h := HR2.out.len
   have h3 := HLm.out
   rw [ptk_yes (by omega), List.take_of_length_le (by omega), List.drop_of_length_le (by omega)])
  have HBL : Hid (ys1.length ≤ 1000000) := Lib.hid (by have h2 := HR2.out.len; omega)
  have hwi : IntKind.i64.wrap (L : Int) = (L : Int) := by rw [IntKind.wrap_i64]; omega
  have hwu : IntKind.u64.wrap (L : Int) = (L : Int) := by rw [IntKind.wrap_u64]; omega
  have HRd := Lib.hid (HR2.out.same ((Keeps.refl _ _).drew))
  refine y_begin (fun _ => True) (fun w' => w'.cell? ⟨rb, 0, none⟩ = some (.slice a m cap) ∧ w'.cell? ⟨rb, 1, none⟩ = some (.int .i64 (p1 : Int))) 12 (by kernel_rfl) ?_
  have hS : (fun _ : World => True) w2.drew := trivial
  have hT : (fun w' : World => w'.cell? ⟨rb, 0, none⟩ = some (.slice a m cap) ∧ w'.cell? ⟨rb, 1, none⟩ = some (.int .i64 (p1 : Int))) w2.drew := ⟨c0, c1⟩
  refine y_take0 (i := 0) (v := ?_) rfl (by kernel_rfl) (by kernel_rfl) (by kernel_rfl) (by decide) (fun _ _ _ h => h) (Or.inl ⟨by kernel_rfl, ?_⟩) ⟨hS, fun _ => hT⟩ ?_
  rotate_left
  ·intro wz _; go_simp; try with_reducible rfl
  refine y_take0 (i := 1) (v := ?_) rfl (by kernel_rfl) (by kernel_rfl) (by kernel_rfl) (by decide) (fun _ _ _ h => h) (Or.inl ⟨by kernel_rfl, ?_⟩) ⟨hS, fun _ => hT⟩ ?_
  rotate_left
  ·intro wz _; go_simp; try with_reducible rfl
  refine y_take0 (i := 2) (v := ?_) rfl (by kernel_rfl) (by kernel_rfl) (by kernel_rfl) (by decide) (fun _ _ _ h => h) (Or.inl ⟨by kernel_rfl, ?_⟩) ⟨hS, fun _ => hT⟩ ?_
  rotate_left
  ·intro wz _; go_simp; try with_reducible rfl
  refine y_take0 (i := 3) (v := ?_) rfl (by kernel_rfl) (by kernel_rfl) (by kernel_rfl) (by decide) (fun _ _ _ h => h) (Or.inl ⟨by kernel_rfl, ?_⟩) ⟨hS, fun _ => hT⟩ ?_
  rotate_left
  ·intro wz _; go_simp; try with_reducible rfl
  refine y_takeS (i := 4) (v := ?_) rfl (by kernel_rfl) (by kernel_rfl) (by kernel_rfl) (by decide) [5, 10, 11, 12] (by kernel_rfl) (by kernel_rfl) (by kernel_rfl) (fun _ _ _ h => h) (Or.inl ⟨by kernel_rfl, ?_⟩) ⟨hS, fun _ => hT⟩ ?_
  rotate_left
  ·intro wz ⟨_, _⟩; go_simp; try with_reducible rfl
  refine y_take0 (i := 5) (v := ?_) rfl (by kernel_rfl) (by kernel_rfl) (by kernel_rfl) (by decide) (fun _ _ _ h => h) (Or.inl ⟨by kernel_rfl, ?_⟩) ⟨hS, fun _ => hT⟩ ?_
  rotate_left
  ·intro wz _; go_simp; try with_reducible rfl
  refine y_take0 (i := 6) (v := ?_) rfl (by kernel_rfl) (by kernel_rfl) (by kernel_rfl) (by decide) (fun _ _ _ h => h) (Or.inl ⟨by kernel_rfl, ?_⟩) ⟨hS, fun _ => hT⟩ ?_
  rotate_left
  ·intro wz _; go_simp; try with_reducible rfl
  refine y_take0 (i := 7) (v := ?_) rfl (by kernel_rfl) (by kernel_rfl) (by kernel_rfl) (by decide) (fun _ _ _ h => h) (Or.inl ⟨by kernel_rfl, ?_⟩) ⟨hS, fun _ => hT⟩ ?_
  rotate_left
  ·intro wz _; go_simp; try with_reducible rfl
  refine y_take0 (i := 8) (v := ?_) rfl (by kernel_rfl) (by kernel_rfl) (by kernel_rfl) (by decide) (fun _ _ _ h => h) (Or.inl ⟨by kernel_rfl, ?_⟩) ⟨hS, fun _ => hT⟩ ?_
  rotate_left
  ·intro wz _; go_simp; try with_reducible rfl
  refine y_takeS (i := 9) (v := ?_) rfl (by kernel_rfl) (by kernel_rfl) (by kernel_rfl) (by decide) [10, 11, 12] (by kernel_rfl) (by kernel_rfl) (by kernel_rfl) (fun _ _ _ h => h) (Or.inl ⟨by kernel_rfl, ?_⟩) ⟨hS, fun _ => hT⟩ ?_
  rotate_left
  ·intro wz ⟨_, _⟩; go_simp; try with_reducible rfl
  refine y_take0 (i := 10) (v := .int .i64 (L : Int)) rfl (by kernel_rfl) (by kernel_rfl) (by kernel_rfl) (by decide) (fun _ _ _ h => h) (Or.inl ⟨by kernel_rfl, ?_⟩) ⟨hS, fun _ => hT⟩ ?_
  ·intro wz _; go_simp; try rw [hL]; try rw [hwi]; try with_reducible rfl; try rfl
  refine y_take0 (i := 11) (v := .int .u64 (L : Int)) rfl (by kernel_rfl) (by kernel_rfl) (by kernel_rfl) (by decide) (fun _ _ _ h => h) (Or.inl ⟨by kernel_rfl, ?_⟩) ⟨hS, fun _ => hT⟩ ?_
  ·intro wz _; go_simp; try rw [hwu]; try with_reducible rfl; try rfl
  refine y_call 60 #[.pointer (some ⟨rb, 0, none⟩), .int .u64 (L : Int)] rfl (by kernel_rfl) (by kernel_rfl) (by kernel_rfl) (by kernel_rfl) ?_
  refine (take_yes rb a m cap xs p1 L ys1 w2.drew HRd.out (by have := HLm.out; omega)).mono ?_
  rintro e w3 ⟨hk, hr⟩
  rw [HLY.out] at hr
  obtain ⟨p9, val, rfl, ⟨a8, n8, c8, rfl, ho⟩, hr⟩ := hr
  refine ⟨_, rfl, trivial, ?_⟩
  clear hS hT c0 c1 hL hwi hwu
  have hS : (fun _ : World => True) w3 := trivial
  have hkd := (Keeps.refl (fun k => k = rb) w2).drew.trans hk
  have HK3 := Lib.hid (HK2.out.trans hkd)
  have HZ3 := Lib.hid (hkd.blk HZ2.out HNZ.out)
  have HL3 := Lib.hid (hkd.blk HL2.out HNL.out)
  have HR3 := Lib.hid hr
  have HO3 : Hid (Bo w2.heap.size w3 a8 n8 c8 ys1) := Lib.hid ho
  have HOB : Hid (fb < w2.heap.size) := Lib.hid HL2.out.lt
  have HRB : Hid (rb < w2.heap.size) := Lib.hid HR2.out.k.lt
  have HOW : Hid (w.heap.size ≤ w2.heap.size) := Lib.hid HK2.out.size
  have HOR : Hid (rs < w2.heap.size) := Lib.hid HZ2.out.lt
  clear hr ho hk hkd HRd
  clear HR2 HK2 HZ2 HL2
  have x8 : w3.cell? ⟨fb, 8, none⟩ = some (.slice none 0 0) := HL3.out.cell 8
  have x2 : w3.cell? ⟨fb, 2, none⟩ = some (.int .u64 0) := HL3.out.cell 2
  have y8 : w3.frozen? ⟨fb, 8, none⟩ = false := HL3.out.free 8
  refine y_take1 (i := 13) (v := ?_) rfl (by kernel_rfl) (by kernel_rfl) (by kernel_rfl) (by decide) (by kernel_rfl) (fun _ _ _ h => h) (Or.inl ⟨by kernel_rfl, ?_⟩) hS ?_
  rotate_left
  ·intro wz _; go_simp; try with_reducible rfl
  refine y_skip (i := 14) (w3.setCell ⟨fb, 8, none⟩ (.slice a8 n8 c8)) rfl (by kernel_rfl) (by kernel_rfl) (by kernel_rfl) ?_ trivial ?_
  ·go_simp; try with_reducible rfl
  refine y_done (by kernel_rfl) ?_ _
  clear hS x8 x2 y8
  refine thenX_named ?_
  intro w4 hw4
  have HR4 : Hid (Re w4 rb a m cap xs p9 []) := Lib.hid (by rw [← hw4]; exact HR3.out.keep ((Keeps.refl (fun k => k = fb) w3).put 8 (.slice a8 n8 c8)) (fun h => HNL.out h.symm) (fun b hb h => by have := HLT.out b hb; have := HFB.out.2; omega))
  have HK4 : Hid (Keeps (fun k => k = rb) w w4) := Lib.hid (by rw [← hw4]; exact (HK3.out.setCell (p := ⟨fb, 8, none⟩) (fun h => absurd h (by have := HFB.out.2; dsimp only; omega)) (.slice a8 n8 c8)))
  have HZ4 : Hid (Blk w4 rs #[.int .u64 0, .int .u64 0, .int .u64 0, .bool false, .int .u64 0, .int .u64 0, .int .u64 0, .slice none 0 0, .slice none 0 0, .bool false, .bool false, .int .i64 0] 32) := Lib.hid (by rw [← hw4]; exact ((Keeps.refl (fun k => k = fb) w3).put 8 (.slice a8 n8 c8)).blk HZ3.out HFB.out.1)
  have HL4 : Hid (Blk w4 fb #[.int .u64 8, .int .u64 v1, .int .u64 0, .bool false, .int .u64 0, .int .u64 0, .int .u64 0, .slice none 0 0, .slice a8 n8 c8, .bool false, .bool false, .int .i64 0] 32) := Lib.hid (by rw [← hw4]; exact (HL3.out.set 8 (.slice a8 n8 c8)).as rfl)
  have HO4 : Hid (Bo w2.heap.size w4 a8 n8 c8 ys1) := Lib.hid (by rw [← hw4]; exact HO3.out.keep ((Keeps.refl (fun k => k = fb) w3).put 8 (.slice a8 n8 c8)) (fun b hb h => by have h1 := (HO3.out.ge b hb).1; have h2 := HOB.out; omega))
  clear hw4
  clear HR3 HK3 HZ3 HL3 HO3
  have x8 : w4.cell? ⟨fb, 8, none⟩ = some (.slice a8 n8 c8) := HL4.out.cell 8
  have x2 : w4.cell? ⟨fb, 2, none⟩ = some (.int .u64 0) := HL4.out.cell 2
  go_wp2_with fail
  clear x8 x2
  have HN8 : Hid (n8 = ys1.length) := Lib.hid HO4.out.1
  have hn8 : n8 ≤ 1000000 := by have h1 := HBL.out; have h2 := HN8.out; omega
  refine (end_any 0 n8 w4 (by have := HV1.out; omega) (by have := HV1.out; omega) hn8).mono ?_
  rintro e w5 ⟨he, rfl⟩
  cases hen : endB 0 n8 with
  | false =>
   have HEN : Hid (endB 0 ys1.length = false) := Lib.hid (by rw [← HN8.out]; exact hen)
   rw [hen, if_neg (by decide)] at he
   subst he
   clear hen
   have HD : Hid (strD false false false ys = none) := Lib.hid (by unfold strD; simp only [pb, HQ1.out, HEN.out, Bool.false_eq_true, if_false, if_true, ite_true, ite_false])
   go_wp2_with fail
   refine ⟨rfl, ?_⟩
   rw [HD.out]
   exact ReP.panic HK4.out
  | true =>
   have HEN : Hid (endB 0 ys1.length = true) := Lib.hid (by rw [← HN8.out]; exact hen)
   rw [hen, if_pos rfl] at he
   subst he
   clear hen
   have HD : Hid (strD false false false ys = some (⟨8, v1, 0, false, 0, 0, 0, [], ys1, false, false, 0⟩, [])) := Lib.hid (by unfold strD; simp only [pb, HQ1.out, HEN.out, Bool.false_eq_true, if_false, if_true, ite_true, ite_false])
   obtain ⟨x0, x1, x2, x3, x4, x5, x6, x7, x8, x9, x10, x11⟩ := q12_cells HL4.out
   obtain ⟨t0, t1, t2, t3, t4, t5, t6, t7, t8, t9, t10, t11⟩ := q12_cells HZ4.out
   obtain ⟨z0, z1, z2, z3, z4, z5, z6, z7, z8, z9, z10, z11⟩ := q12_free HZ4.out
   go_wp2_with fail
   refine bodyPost_ret (v := ?_) ?_ (by kernel_rfl) ?_
   rotate_left
   ·exact rstream_results _ _ rs (by kernel_rfl) (qs_blk HZ4.out _ _ _ _ _ _ _ _ _ _ _ _)
   refine ⟨qs_keep HK4.out (fun h => absurd h (by have := HRS.out; omega)) _ _ _ _ _ _ _ _ _ _ _ _, ?_⟩
   rw [HD.out]
   refine ⟨p9, _, rfl, ⟨_, ?_, rfl, Qn.bytes _ _ _ _ _ _ _ _ _ _ ⟨by omega, by omega⟩ HU1.out inU_0 inU_0 inU_0 _ _ _ _ ((HO4.out.keep (qs_keep (S := fun k => k = rs) (Keeps.refl _ _) (fun _ => rfl) _ _ _ _ _ _ _ _ _ _ _ _) (fun b hb h => by have h1 := (HO4.out.ge b hb).1; have h2 := HOR.out; omega)).mono HOW.out)⟩, HR4.out.keep (qs_keep (S := fun k => k = rs) (Keeps.refl _ _) (fun _ => rfl) _ _ _ _ _ _ _ _ _ _ _ _) (fun h => HNZ.out h.symm) (fun b hb h => by have h1 := HLT.out b hb; have h2 := HRS.out; omega)⟩
   rfl

set_option maxRecDepth 100000 in
set_option maxHeartbeats 3200000 in
theorem rstream_9 (rb : Nat) (a : Option Addr) (m cap : Nat) (xs : List UInt8) (p : Nat) (ys : List UInt8) (w : World) (hr : Re w rb a m cap xs p ys) (hlt : ∀ b, a.map (·.block) = some b → b < w.heap.size) :
  Calls Try.prog 52 #[.pointer (some ⟨rb, 0, none⟩), .int .u64 9] w (ReP rb a m cap xs (vFrame w.heap.size) (strD true false false ys) w) := by
 have HLT := Lib.hid hlt
 have HR := Lib.hid hr
 have hlm : m ≤ 1000000 := hr.small
 have hrb := hr.k.lt
 have b1 : bits .and .u64 9 1 = 1 := by decide +kernel
 have b4 : bits .and .u64 9 4 = 0 := by decide +kernel
 have b2 : bits .and .u64 9 2 = 0 := by decide +kernel
 clear hr hlt
 go_enter Try.func52, Try.ntmps52
 go_wp2_with fail
 refine calls_named ?_
 intro w0 hw0
 have HR0 : Hid (Re w0 rb a m cap xs p ys) := Lib.hid (by rw [← hw0]; exact HR.out.same ((Keeps.refl _ _).alloc _))
 have HK0 : Hid (Keeps (fun k => k = rb) w w0) := Lib.hid (by rw [← hw0]; exact (Keeps.refl _ _).alloc _)
 have HZ0 : Hid (Blk w0 w.heap.size #[.int .u64 0, .int .u64 0, .int .u64 0, .bool false, .int .u64 0, .int .u64 0, .int .u64 0, .slice none 0 0, .slice none 0 0, .bool false, .bool false, .int .i64 0] 32) := Lib.hid (by rw [← hw0]; exact Blk.new _ _ _)
 obtain ⟨rs, hrs⟩ : ∃ rs, w.heap.size = rs := ⟨_, rfl⟩
 have HRS : Hid (w.heap.size ≤ rs) := Lib.hid (by omega)
 have HNZ : Hid (¬ rs = rb) := Lib.hid (by omega)
 rw [hrs] at HZ0 ⊢
 clear hw0 hrb HR hrs
 refine (num_any rb a m cap xs p ys w0 HR0.out).mono ?_
 rintro e w1 ⟨hk, hr⟩
 have HK1 := Lib.hid (HK0.out.trans hk)
 have HZ1 := Lib.hid (hk.blk HZ0.out HNZ.out)
 have HSZ1 : Hid (w0.heap.size ≤ w1.heap.size) := Lib.hid hk.size
 clear hk
 cases hq1 : pn ys with
 | none =>
  rw [hq1] at hr
  have hr' : e = .panicked [{ v := stopV, recovered := false }] := hr
  subst hr'
  have HQ1 := Lib.hid hq1
  clear hr hq1
  have HD : Hid (strD true false false ys = none) := Lib.hid (by unfold strD; simp only [pb, HQ1.out, Bool.false_eq_true, if_false, if_true, ite_true, ite_false])
  go_wp2_with fail
  refine ⟨rfl, ?_⟩
  rw [HD.out]
  exact ReP.panic HK1.out
 | some x =>
  obtain ⟨v1, ys1⟩ := x
  rw [hq1] at hr
  obtain ⟨p1, val, rfl, rfl, hr⟩ := hr
  have hbd := pn_bd hq1
  have HU1 : Hid (inU v1) := Lib.hid ⟨hbd.1, by omega⟩
  have HV1 : Hid (0 ≤ v1 ∧ v1 ≤ 4611686018427387903) := Lib.hid ⟨hbd.1, hbd.2.1⟩
  have HQ1 := Lib.hid hq1
  have HR1 := Lib.hid hr
  clear hr hq1 hbd
  clear HR0 HK0 HZ0
  go_wp2_with fail
  go_upto_region 6 with fail
  refine wp_named ?_
  intro w2 hw2
  have HR2 : Hid (Re w2 rb a m cap xs p1 ys1) := Lib.hid (by rw [← hw2]; exact HR1.out.same ((Keeps.refl _ _).alloc _))
  have HK2 : Hid (Keeps (fun k => k = rb) w w2) := Lib.hid (by rw [← hw2]; exact HK1.out.alloc _)
  have HZ2 : Hid (Blk w2 rs #[.int .u64 0, .int .u64 0, .int .u64 0, .bool false, .int .u64 0, .int .u64 0, .int .u64 0, .slice none 0 0, .slice none 0 0, .bool false, .bool false, .int .i64 0] 32) := Lib.hid (by rw [← hw2]; exact HZ1.out.alloc _)
  have HL2 : Hid (Blk w2 w1.heap.size #[.int .u64 8, .int .u64 v1, .int .u64 0, .bool true, .int .u64 0, .int .u64 0, .int .u64 0, .slice none 0 0, .slice none 0 0, .bool false, .bool false, .int .i64 0] 32) := Lib.hid (by rw [← hw2]; exact Blk.new _ _ _)
  have hfb0 : rs < w1.heap.size := HZ1.out.lt
  have hfb1 : w.heap.size ≤ w1.heap.size := HK1.out.size
  have hfb2 : rb < w1.heap.size := HR1.out.k.lt
  have HFL2 : Hid (w1.heap.size < w2.heap.size) := Lib.hid HL2.out.lt
  clear hw2 HR1 HK1 HZ1
  generalize w1.heap.size = fb at *
  have HNL : Hid (¬ fb = rb) := Lib.hid (by omega)
  have HFB : Hid (rs ≠ fb ∧ w.heap.size ≤ fb) := Lib.hid ⟨Nat.ne_of_lt hfb0, hfb1⟩
  clear hfb0 hfb1 hfb2
  have c0 : w2.cell? ⟨rb, 0, none⟩ = some (.slice a m cap) := HR2.out.k.cell 0
  have c1 : w2.cell? ⟨rb, 1, none⟩ = some (.int .i64 (p1 : Int)) := HR2.out.k.cell 1
  obtain ⟨L, hL⟩ : ∃ L : Nat, (m : Int) - (p1 : Int) = (L : Int) := ⟨m - p1, by have := HR2.out.le; omega⟩
  have HLm : Hid (L = m - p1) := Lib.hid (by omega)
  have HLY : Hid (ptk L ys1 = some (ys1, [])) := Lib.hid (by
   have h := HR2.out.len
   have h3 := HLm.out
   rw [ptk_yes (by omega), List.take_of_length_le (by omega), List.drop_of_length_le (by omega)])
  have HBL : Hid (ys1.length ≤ 1000000) := Lib.hid (by have h2 := HR2.out.len; omega)
  have hwi : IntKind.i64.wrap (L : Int) = (L : Int) := by rw [IntKind.wrap_i64]; omega
  have hwu : IntKind.u64.wrap (L : Int) = (L : Int) := by rw [IntKind.wrap_u64]; omega
  have HRd := Lib.hid (HR2.out.same ((Keeps.refl _ _).drew))
  refine y_begin (fun _ => True) (fun w' => w'.cell? ⟨rb, 0, none⟩ = some (.slice a m cap) ∧ w'.cell? ⟨rb, 1, none⟩ = some (.int .i64 (p1 : Int))) 12 (by kernel_rfl) ?_
  have hS : (fun _ : World => True) w2.drew := trivial
  have hT : (fun w' : World => w'.cell? ⟨rb, 0, none⟩ = some (.slice a m cap) ∧ w'.cell? ⟨rb, 1, none⟩ = some (.int .i64 (p1 : Int))) w2.drew := ⟨c0, c1⟩
  refine y_take0 (i := 0) (v := ?_) rfl (by kernel_rfl) (by kernel_rfl) (by kernel_rfl) (by decide) (fun _ _ _ h => h) (Or.inl ⟨by kernel_rfl, ?_⟩) ⟨hS, fun _ => hT⟩ ?_
  rotate_left
  ·intro wz _; go_simp; try with_reducible rfl
  refine y_take0 (i := 1) (v := ?_) rfl (by kernel_rfl) (by kernel_rfl) (by kernel_rfl) (by decide) (fun _ _ _ h => h) (Or.inl ⟨by kernel_rfl, ?_⟩) ⟨hS, fun _ => hT⟩ ?_
  rotate_left
  ·intro wz _; go_simp; try with_reducible rfl
  refine y_take0 (i := 2) (v := ?_) rfl (by kernel_rfl) (by kernel_rfl) (by kernel_rfl) (by decide) (fun _ _ _ h => h) (Or.inl ⟨by kernel_rfl, ?_⟩) ⟨hS, fun _ => hT⟩ ?_
  rotate_left
  ·intro wz _; go_simp; try with_reducible rfl
  refine y_take0 (i := 3) (v := ?_) rfl (by kernel_rfl) (by kernel_rfl) (by kernel_rfl) (by decide) (fun _ _ _ h => h) (Or.inl ⟨by kernel_rfl, ?_⟩) ⟨hS, fun _ => hT⟩ ?_
  rotate_left
  ·intro wz _; go_simp; try with_reducible rfl
  refine y_takeS (i := 4) (v := ?_) rfl (by kernel_rfl) (by kernel_rfl) (by kernel_rfl) (by decide) [5, 10, 11, 12] (by kernel_rfl) (by kernel_rfl) (by kernel_rfl) (fun _ _ _ h => h) (Or.inl ⟨by kernel_rfl, ?_⟩) ⟨hS, fun _ => hT⟩ ?_
  rotate_left
  ·intro wz ⟨_, _⟩; go_simp; try with_reducible rfl
  refine y_take0 (i := 5) (v := ?_) rfl (by kernel_rfl) (by kernel_rfl) (by kernel_rfl) (by decide) (fun _ _ _ h => h) (Or.inl ⟨by kernel_rfl, ?_⟩) ⟨hS, fun _ => hT⟩ ?_
  rotate_left
  ·intro wz _; go_simp; try with_reducible rfl
  refine y_take0 (i := 6) (v := ?_) rfl (by kernel_rfl) (by kernel_rfl) (by kernel_rfl) (by decide) (fun _ _ _ h => h) (Or.inl ⟨by kernel_rfl, ?_⟩) ⟨hS, fun _ => hT⟩ ?_
  rotate_left
  ·intro wz _; go_simp; try with_reducible rfl
  refine y_take0 (i := 7) (v := ?_) rfl (by kernel_rfl) (by kernel_rfl) (by kernel_rfl) (by decide) (fun _ _ _ h => h) (Or.inl ⟨by kernel_rfl, ?_⟩) ⟨hS, fun _ => hT⟩ ?_
  rotate_left
  ·intro wz _; go_simp; try with_reducible rfl
  refine y_take0 (i := 8) (v := ?_) rfl (by kernel_rfl) (by kernel_rfl) (by kernel_rfl) (by decide) (fun _ _ _ h => h) (Or.inl ⟨by kernel_rfl, ?_⟩) ⟨hS, fun _ => hT⟩ ?_
  rotate_left
  ·intro wz _; go_simp; try with_reducible rfl
  refine y_takeS (i := 9) (v := ?_) rfl (by kernel_rfl) (by kernel_rfl) (by kernel_rfl) (by decide) [10, 11, 12] (by kernel_rfl) (by kernel_rfl) (by kernel_rfl) (fun _ _ _ h => h) (Or.inl ⟨by kernel_rfl, ?_⟩) ⟨hS, fun _ => hT⟩ ?_
  rotate_left
  ·intro wz ⟨_, _⟩; go_simp; try with_reducible rfl
  refine y_take0 (i := 10) (v := .int .i64 (L : Int)) rfl (by kernel_rfl) (by kernel_rfl) (by kernel_rfl) (by decide) (fun _ _ _ h => h) (Or.inl ⟨by kernel_rfl, ?_⟩) ⟨hS, fun _ => hT⟩ ?_
  ·intro wz _; go_simp; try rw [hL]; try rw [hwi]; try with_reducible rfl; try rfl
  refine y_take0 (i := 11) (v := .int .u64 (L : Int)) rfl (by kernel_rfl) (by kernel_rfl) (by kernel_rfl) (by decide) (fun _ _ _ h => h) (Or.inl ⟨by kernel_rfl, ?_⟩) ⟨hS, fun _ => hT⟩ ?_
  ·intro wz _; go_simp; try rw [hwu]; try with_reducible rfl; try rfl
  refine y_call 60 #[.pointer (some ⟨rb, 0, none⟩), .int .u64 (L : Int)] rfl (by kernel_rfl) (by kernel_rfl) (by kernel_rfl) (by kernel_rfl) ?_
  refine (take_yes rb a m cap xs p1 L ys1 w2.drew HRd.out (by have := HLm.out; omega)).mono ?_
  rintro e w3 ⟨hk, hr⟩
  rw [HLY.out] at hr
  obtain ⟨p9, val, rfl, ⟨a8, n8, c8, rfl, ho⟩, hr⟩ := hr
  refine ⟨_, rfl, trivial, ?_⟩
  clear hS hT c0 c1 hL hwi hwu
  have hS : (fun _ : World => True) w3 := trivial
  have hkd := (Keeps.refl (fun k => k = rb) w2).drew.trans hk
  have HK3 := Lib.hid (HK2.out.trans hkd)
  have HZ3 := Lib.hid (hkd.blk HZ2.out HNZ.out)
  have HL3 := Lib.hid (hkd.blk HL2.out HNL.out)
  have HR3 := Lib.hid hr
  have HO3 : Hid (Bo w2.heap.size w3 a8 n8 c8 ys1) := Lib.hid ho
  have HOB : Hid (fb < w2.heap.size) := Lib.hid HL2.out.lt
  have HRB : Hid (rb < w2.heap.size) := Lib.hid HR2.out.k.lt
  have HOW : Hid (w.heap.size ≤ w2.heap.size) := Lib.hid HK2.out.size
  have HOR : Hid (rs < w2.heap.size) := Lib.hid HZ2.out.lt
  clear hr ho hk hkd HRd
  clear HR2 HK2 HZ2 HL2
  have x8 : w3.cell? ⟨fb, 8, none⟩ = some (.slice none 0 0) := HL3.out.cell 8
  have x2 : w3.cell? ⟨fb, 2, none⟩ = some (.int .u64 0) := HL3.out.cell 2
  have y8 : w3.frozen? ⟨fb, 8, none⟩ = false := HL3.out.free 8
  refine y_take1 (i := 13) (v := ?_) rfl (by kernel_rfl) (by kernel_rfl) (by kernel_rfl) (by decide) (by kernel_rfl) (fun _ _ _ h => h) (Or.inl ⟨by kernel_rfl, ?_⟩) hS ?_
  rotate_left
  ·intro wz _; go_simp; try with_reducible rfl
  refine y_skip (i := 14) (w3.setCell ⟨fb, 8, none⟩ (.slice a8 n8 c8)) rfl (by kernel_rfl) (by kernel_rfl) (by kernel_rfl) ?_ trivial ?_
  ·go_simp; try with_reducible rfl
  refine y_done (by kernel_rfl) ?_ _
  clear hS x8 x2 y8
  refine thenX_named ?_
  intro w4 hw4
  have HR4 : Hid (Re w4 rb a m cap xs p9 []) := Lib.hid (by rw [← hw4]; exact HR3.out.keep ((Keeps.refl (fun k => k = fb) w3).put 8 (.slice a8 n8 c8)) (fun h => HNL.out h.symm) (fun b hb h => by have := HLT.out b hb; have := HFB.out.2; omega))
  have HK4 : Hid (Keeps (fun k => k = rb) w w4) := Lib.hid (by rw [← hw4]; exact (HK3.out.setCell (p := ⟨fb, 8, none⟩) (fun h => absurd h (by have := HFB.out.2; dsimp only; omega)) (.slice a8 n8 c8)))
  have HZ4 : Hid (Blk w4 rs #[.int .u64 0, .int .u64 0, .int .u64 0, .bool false, .int .u64 0, .int .u64 0, .int .u64 0, .slice none 0 0, .slice none 0 0, .bool false, .bool false, .int .i64 0] 32) := Lib.hid (by rw [← hw4]; exact ((Keeps.refl (fun k => k = fb) w3).put 8 (.slice a8 n8 c8)).blk HZ3.out HFB.out.1)
  have HL4 : Hid (Blk w4 fb #[.int .u64 8, .int .u64 v1, .int .u64 0, .bool true, .int .u64 0, .int .u64 0, .int .u64 0, .slice none 0 0, .slice a8 n8 c8, .bool false, .bool false, .int .i64 0] 32) := Lib.hid (by rw [← hw4]; exact (HL3.out.set 8 (.slice a8 n8 c8)).as rfl)
  have HO4 : Hid (Bo w2.heap.size w4 a8 n8 c8 ys1) := Lib.hid (by rw [← hw4]; exact HO3.out.keep ((Keeps.refl (fun k => k = fb) w3).put 8 (.slice a8 n8 c8)) (fun b hb h => by have h1 := (HO3.out.ge b hb).1; have h2 := HOB.out; omega))
  clear hw4
  clear HR3 HK3 HZ3 HL3 HO3
  have x8 : w4.cell? ⟨fb, 8, none⟩ = some (.slice a8 n8 c8) := HL4.out.cell 8
  have x2 : w4.cell? ⟨fb, 2, none⟩ = some (.int .u64 0) := HL4.out.cell 2
  go_wp2_with fail
  clear x8 x2
  have HN8 : Hid (n8 = ys1.length) := Lib.hid HO4.out.1
  have hn8 : n8 ≤ 1000000 := by have h1 := HBL.out; have h2 := HN8.out; omega
  refine (end_any 0 n8 w4 (by have := HV1.out; omega) (by have := HV1.out; omega) hn8).mono ?_
  rintro e w5 ⟨he, rfl⟩
  cases hen : endB 0 n8 with
  | false =>
   have HEN : Hid (endB 0 ys1.length = false) := Lib.hid (by rw [← HN8.out]; exact hen)
   rw [hen, if_neg (by decide)] at he
   subst he
   clear hen
   have HD : Hid (strD true false false ys = none) := Lib.hid (by unfold strD; simp only [pb, HQ1.out, HEN.out, Bool.false_eq_true, if_false, if_true, ite_true, ite_false])
   go_wp2_with fail
   refine ⟨rfl, ?_⟩
   rw [HD.out]
   exact ReP.panic HK4.out
  | true =>
   have HEN : Hid (endB 0 ys1.length = true) := Lib.hid (by rw [← HN8.out]; exact hen)
   rw [hen, if_pos rfl] at he
   subst he
   clear hen
   have HD : Hid (strD true false false ys = some (⟨8, v1, 0, true, 0, 0, 0, [], ys1, false, false, 0⟩, [])) := Lib.hid (by unfold strD; simp only [pb, HQ1.out, HEN.out, Bool.false_eq_true, if_false, if_true, ite_true, ite_false])
   obtain ⟨x0, x1, x2, x3, x4, x5, x6, x7, x8, x9, x10, x11⟩ := q12_cells HL4.out
   obtain ⟨t0, t1, t2, t3, t4, t5, t6, t7, t8, t9, t10, t11⟩ := q12_cells HZ4.out
   obtain ⟨z0, z1, z2, z3, z4, z5, z6, z7, z8, z9, z10, z11⟩ := q12_free HZ4.out
   go_wp2_with fail
   refine bodyPost_ret (v := ?_) ?_ (by kernel_rfl) ?_
   rotate_left
   ·exact rstream_results _ _ rs (by kernel_rfl) (qs_blk HZ4.out _ _ _ _ _ _ _ _ _ _ _ _)
   refine ⟨qs_keep HK4.out (fun h => absurd h (by have := HRS.out; omega)) _ _ _ _ _ _ _ _ _ _ _ _, ?_⟩
   rw [HD.out]
   refine ⟨p9, _, rfl, ⟨_, ?_, rfl, Qn.bytes _ _ _ _ _ _ _ _ _ _ ⟨by omega, by omega⟩ HU1.out inU_0 inU_0 inU_0 _ _ _ _ ((HO4.out.keep (qs_keep (S := fun k => k = rs) (Keeps.refl _ _) (fun _ => rfl) _ _ _ _ _ _ _ _ _ _ _ _) (fun b hb h => by have h1 := (HO4.out.ge b hb).1; have h2 := HOR.out; omega)).mono HOW.out)⟩, HR4.out.keep (qs_keep (S := fun k => k = rs) (Keeps.refl _ _) (fun _ => rfl) _ _ _ _ _ _ _ _ _ _ _ _) (fun h => HNZ.out h.symm) (fun b hb h => by have h1 := HLT.out b hb; have h2 := HRS.out; omega)⟩
   rfl

set_option maxRecDepth 100000 in
set_option maxHeartbeats 3200000 in
theorem rstream_10 (rb : Nat) (a : Option Addr) (m cap : Nat) (xs : List UInt8) (p : Nat) (ys : List UInt8) (w : World) (hr : Re w rb a m cap xs p ys) (hlt : ∀ b, a.map (·.block) = some b → b < w.heap.size) :
  Calls Try.prog 52 #[.pointer (some ⟨rb, 0, none⟩), .int .u64 10] w (ReP rb a m cap xs (vFrame w.heap.size) (strD false false true ys) w) := by
 have HLT := Lib.hid hlt
 have HR := Lib.hid hr
 have hlm : m ≤ 1000000 := hr.small
 have hrb := hr.k.lt
 have b1 : bits .and .u64 10 1 = 0 := by decide +kernel
 have b4 : bits .and .u64 10 4 = 0 := by decide +kernel
 have b2 : bits .and .u64 10 2 = 2 := by decide +kernel
 clear hr hlt
 go_enter Try.func52, Try.ntmps52
 go_wp2_with fail
 refine calls_named ?_
 intro w0 hw0
 have HR0 : Hid (Re w0 rb a m cap xs p ys) := Lib.hid (by rw [← hw0]; exact HR.out.same ((Keeps.refl _ _).alloc _))
 have HK0 : Hid (Keeps (fun k => k = rb) w w0) := Lib.hid (by rw [← hw0]; exact (Keeps.refl _ _).alloc _)
 have HZ0 : Hid (Blk w0 w.heap.size #[.int .u64 0, .int .u64 0, .int .u64 0, .bool false, .int .u64 0, .int .u64 0, .int .u64 0, .slice none 0 0, .slice none 0 0, .bool false, .bool false, .int .i64 0] 32) := Lib.hid (by rw [← hw0]; exact Blk.new _ _ _)
 obtain ⟨rs, hrs⟩ : ∃ rs, w.heap.size = rs := ⟨_, rfl⟩
 have HRS : Hid (w.heap.size ≤ rs) := Lib.hid (by omega)
 have HNZ : Hid (¬ rs = rb) := Lib.hid (by omega)
 rw [hrs] at HZ0 ⊢
 clear hw0 hrb HR hrs
 refine (num_any rb a m cap xs p ys w0 HR0.out).mono ?_
 rintro e w1 ⟨hk, hr⟩
 have HK1 := Lib.hid (HK0.out.trans hk)
 have HZ1 := Lib.hid (hk.blk HZ0.out HNZ.out)
 have HSZ1 : Hid (w0.heap.size ≤ w1.heap.size) := Lib.hid hk.size
 clear hk
 cases hq1 : pn ys with
 | none =>
  rw [hq1] at hr
  have hr' : e = .panicked [{ v := stopV, recovered := false }] := hr
  subst hr'
  have HQ1 := Lib.hid hq1
  clear hr hq1
  have HD : Hid (strD false false true ys = none) := Lib.hid (by unfold strD; simp only [pb, HQ1.out, Bool.false_eq_true, if_false, if_true, ite_true, ite_false])
  go_wp2_with fail
  refine ⟨rfl, ?_⟩
  rw [HD.out]
  exact ReP.panic HK1.out
 | some x =>
  obtain ⟨v1, ys1⟩ := x
  rw [hq1] at hr
  obtain ⟨p1, val, rfl, rfl, hr⟩ := hr
  have hbd := pn_bd hq1
  have HU1 : Hid (inU v1) := Lib.hid ⟨hbd.1, by omega⟩
  have HV1 : Hid (0 ≤ v1 ∧ v1 ≤ 4611686018427387903) := Lib.hid ⟨hbd.1, hbd.2.1⟩
  have HQ1 := Lib.hid hq1
  have HR1 := Lib.hid hr
  clear hr hq1 hbd
  clear HR0 HK0 HZ0
  go_wp2_with fail
  refine calls_named ?_
  intro w2 hw2
  have HR2 : Hid (Re w2 rb a m cap xs p1 ys1) := Lib.hid (by rw [← hw2]; exact HR1.out.same ((Keeps.refl _ _).alloc _))
  have HK2 : Hid (Keeps (fun k => k = rb) w w2) := Lib.hid (by rw [← hw2]; exact HK1.out.alloc _)
  have HZ2 : Hid (Blk w2 rs #[.int .u64 0, .int .u64 0, .int .u64 0, .bool false, .int .u64 0, .int .u64 0, .int .u64 0, .slice none 0 0, .slice none 0 0, .bool false, .bool false, .int .i64 0] 32) := Lib.hid (by rw [← hw2]; exact HZ1.out.alloc _)
  have HL2 : Hid (Blk w2 w1.heap.size #[.int .u64 8, .int .u64 v1, .int .u64 0, .bool false, .int .u64 0, .int .u64 0, .int .u64 0, .slice none 0 0, .slice none 0 0, .bool false, .bool false, .int .i64 0] 32) := Lib.hid (by rw [← hw2]; exact Blk.new _ _ _)
  have hfb0 : rs < w1.heap.size := HZ1.out.lt
  have hfb1 : w.heap.size ≤ w1.heap.size := HK1.out.size
  have hfb2 : rb < w1.heap.size := HR1.out.k.lt
  have HFL2 : Hid (w1.heap.size < w2.heap.size) := Lib.hid HL2.out.lt
  clear hw2 HR1 HK1 HZ1
  generalize w1.heap.size = fb at *
  have HNL : Hid (¬ fb = rb) := Lib.hid (by omega)
  have HFB : Hid (rs ≠ fb ∧ w.heap.size ≤ fb) := Lib.hid ⟨Nat.ne_of_lt hfb0, hfb1⟩
  clear hfb0 hfb1 hfb2
  refine (rtext_any rb a m cap xs p1 ys1 w2 HR2.out).mono ?_
  rintro e w3 ⟨hk, hr⟩
  have HK3 := Lib.hid (HK2.out.trans hk)
  have HZ3 := Lib.hid (hk.blk HZ2.out HNZ.out)
  have HL3 := Lib.hid (hk.blk HL2.out HNL.out)
  have HSZ3 : Hid (w2.heap.size ≤ w3.heap.size) := Lib.hid hk.size
  clear hk
  cases hq2 : ptx ys1 with
  | none =>
   rw [hq2] at hr
   have hr' : e = .panicked [{ v := stopV, recovered := false }] := hr
   subst hr'
   have HQ2 := Lib.hid hq2
   clear hr hq2
   have HD : Hid (strD false false true ys = none) := Lib.hid (by unfold strD; simp only [pb, HQ1.out, HQ2.out, Bool.false_eq_true, if_false, if_true, ite_true, ite_false])
   go_wp2_with fail
   refine ⟨rfl, ?_⟩
   rw [HD.out]
   exact ReP.panic HK3.out
  | some x =>
   obtain ⟨bs, ys2⟩ := x
   rw [hq2] at hr
   obtain ⟨p2, val, rfl, ⟨a8, n8, c8, rfl, ho⟩, hr⟩ := hr
   have HQ2 := Lib.hid hq2
   have HR3 := Lib.hid hr
   have HO3 : Hid (Bo w2.heap.size w3 a8 n8 c8 bs) := Lib.hid ho
   have HOB : Hid (fb < w2.heap.size) := Lib.hid HL2.out.lt
   have HRB : Hid (rb < w2.heap.size) := Lib.hid HR2.out.k.lt
   have HOW : Hid (w.heap.size ≤ w2.heap.size) := Lib.hid HK2.out.size
   have HOR : Hid (rs < w2.heap.size) := Lib.hid HZ2.out.lt
   have HBL : Hid (bs.length ≤ 1000000) := Lib.hid (by have h1 := ptx_bd hq2; have h2 := HR2.out.len; omega)
   clear hr hq2 ho
   clear HR2 HK2 HZ2 HL2
   have x8 : w3.cell? ⟨fb, 8, none⟩ = some (.slice none 0 0) := HL3.out.cell 8
   have x2 : w3.cell? ⟨fb, 2, none⟩ = some (.int .u64 0) := HL3.out.cell 2
   have y8 : w3.frozen? ⟨fb, 8, none⟩ = false := HL3.out.free 8
   go_upto_region 7 with fail
   clear x8 x2 y8
   refine wp_named ?_
   intro w4 hw4
   have HR4 : Hid (Re w4 rb a m cap xs p2 ys2) := Lib.hid (by rw [← hw4]; exact HR3.out.keep ((Keeps.refl (fun k => k = fb) w3).put 8 (.slice a8 n8 c8)) (fun h => HNL.out h.symm) (fun b hb h => by have := HLT.out b hb; have := HFB.out.2; omega))
   have HK4 : Hid (Keeps (fun k => k = rb) w w4) := Lib.hid (by rw [← hw4]; exact (HK3.out.setCell (p := ⟨fb, 8, none⟩) (fun h => absurd h (by have := HFB.out.2; dsimp only; omega)) (.slice a8 n8 c8)))
   have HZ4 : Hid (Blk w4 rs #[.int .u64 0, .int .u64 0, .int .u64 0, .bool false, .int .u64 0, .int .u64 0, .int .u64 0, .slice none 0 0, .slice none 0 0, .bool false, .bool false, .int .i64 0] 32) := Lib.hid (by rw [← hw4]; exact ((Keeps.refl (fun k => k = fb) w3).put 8 (.slice a8 n8 c8)).blk HZ3.out HFB.out.1)
   have HL4 : Hid (Blk w4 fb #[.int .u64 8, .int .u64 v1, .int .u64 0, .bool false, .int .u64 0, .int .u64 0, .int .u64 0, .slice none 0 0, .slice a8 n8 c8, .bool false, .bool false, .int .i64 0] 32) := Lib.hid (by rw [← hw4]; exact (HL3.out.set 8 (.slice a8 n8 c8)).as rfl)
   have HO4 : Hid (Bo w2.heap.size w4 a8 n8 c8 bs) := Lib.hid (by rw [← hw4]; exact HO3.out.keep ((Keeps.refl (fun k => k = fb) w3).put 8 (.slice a8 n8 c8)) (fun b hb h => by have h1 := (HO3.out.ge b hb).1; have h2 := HOB.out; omega))
   clear hw4
   clear HR3 HK3 HZ3 HL3 HO3
   have x8 : w4.cell? ⟨fb, 8, none⟩ = some (.slice a8 n8 c8) := HL4.out.cell 8
   have x2 : w4.cell? ⟨fb, 2, none⟩ = some (.int .u64 0) := HL4.out.cell 2
   go_wp2_with fail
   clear x8 x2
   have HN8 : Hid (n8 = bs.length) := Lib.hid HO4.out.1
   have hn8 : n8 ≤ 1000000 := by have h1 := HBL.out; have h2 := HN8.out; omega
   refine (end_any 0 n8 w4 (by have := HV1.out; omega) (by have := HV1.out; omega) hn8).mono ?_
   rintro e w5 ⟨he, rfl⟩
   cases hen : endB 0 n8 with
   | false =>
    have HEN : Hid (endB 0 bs.length = false) := Lib.hid (by rw [← HN8.out]; exact hen)
    rw [hen, if_neg (by decide)] at he
    subst he
    clear hen
    have HD : Hid (strD false false true ys = none) := Lib.hid (by unfold strD; simp only [pb, HQ1.out, HQ2.out, HEN.out, Bool.false_eq_true, if_false, if_true, ite_true, ite_false])
    go_wp2_with fail
    refine ⟨rfl, ?_⟩
    rw [HD.out]
    exact ReP.panic HK4.out
   | true =>
    have HEN : Hid (endB 0 bs.length = true) := Lib.hid (by rw [← HN8.out]; exact hen)
    rw [hen, if_pos rfl] at he
    subst he
    clear hen
    have HD : Hid (strD false false true ys = some (⟨8, v1, 0, false, 0, 0, 0, [], bs, false, false, 0⟩, ys2)) := Lib.hid (by unfold strD; simp only [pb, HQ1.out, HQ2.out, HEN.out, Bool.false_eq_true, if_false, if_true, ite_true, ite_false])
    obtain ⟨x0, x1, x2, x3, x4, x5, x6, x7, x8, x9, x10, x11⟩ := q12_cells HL4.out
    obtain ⟨t0, t1, t2, t3, t4, t5, t6, t7, t8, t9, t10, t11⟩ := q12_cells HZ4.out
    obtain ⟨z0, z1, z2, z3, z4, z5, z6, z7, z8, z9, z10, z11⟩ := q12_free HZ4.out
    go_wp2_with fail
    refine bodyPost_ret (v := ?_) ?_ (by kernel_rfl) ?_
    rotate_left
    ·exact rstream_results _ _ rs (by kernel_rfl) (qs_blk HZ4.out _ _ _ _ _ _ _ _ _ _ _ _)
    refine ⟨qs_keep HK4.out (fun h => absurd h (by have := HRS.out; omega)) _ _ _ _ _ _ _ _ _ _ _ _, ?_⟩
    rw [HD.out]
    refine ⟨p2, _, rfl, ⟨_, ?_, rfl, Qn.bytes _ _ _ _ _ _ _ _ _ _ ⟨by omega, by omega⟩ HU1.out inU_0 inU_0 inU_0 _ _ _ _ ((HO4.out.keep (qs_keep (S := fun k => k = rs) (Keeps.refl _ _) (fun _ => rfl) _ _ _ _ _ _ _ _ _ _ _ _) (fun b hb h => by have h1 := (HO4.out.ge b hb).1; have h2 := HOR.out; omega)).mono HOW.out)⟩, HR4.out.keep (qs_keep (S := fun k => k = rs) (Keeps.refl _ _) (fun _ => rfl) _ _ _ _ _ _ _ _ _ _ _ _) (fun h => HNZ.out h.symm) (fun b hb h => by have h1 := HLT.out b hb; have h2 := HRS.out; omega)⟩
    rfl

set_option maxRecDepth 100000 in
set_option maxHeartbeats 3200000 in
theorem rstream_11 (rb : Nat) (a : Option Addr) (m cap : Nat) (xs : List UInt8) (p : Nat) (ys : List UInt8) (w : World) (hr : Re w rb a m cap xs p ys) (hlt : ∀ b, a.map (·.block) = some b → b < w.heap.size) :
  Calls Try.prog 52 #[.pointer (some ⟨rb, 0, none⟩), .int .u64 11] w (ReP rb a m cap xs (vFrame w.heap.size) (strD true false true ys) w) := by
 have HLT := Lib.hid hlt
 have HR := Lib.hid hr
 have hlm : m ≤ 1000000 := hr.small
 have hrb := hr.k.lt
 have b1 : bits .and .u64 11 1 = 1 := by decide +kernel
 have b4 : bits .and .u64 11 4 = 0 := by decide +kernel
 have b2 : bits .and .u64 11 2 = 2 := by decide +kernel
 clear hr hlt
 go_enter Try.func52, Try.ntmps52
 go_wp2_with fail
 refine calls_named ?_
 intro w0 hw0
 have HR0 : Hid (Re w0 rb a m cap xs p ys) := Lib.hid (by rw [← hw0]; exact HR.out.same ((Keeps.refl _ _).alloc _))
 have HK0 : Hid (Keeps (fun k => k = rb) w w0) := Lib.hid (by rw [← hw0]; exact (Keeps.refl _ _).alloc _)
 have HZ0 : Hid (Blk w0 w.heap.size #[.int .u64 0, .int .u64 0, .int .u64 0, .bool false, .int .u64 0, .int .u64 0, .int .u64 0, .slice none 0 0, .slice none 0 0, .bool false, .bool false, .int .i64 0] 32) := Lib.hid (by rw [← hw0]; exact Blk.new _ _ _)
 obtain ⟨rs, hrs⟩ : ∃ rs, w.heap.size = rs := ⟨_, rfl⟩
 have HRS : Hid (w.heap.size ≤ rs) := Lib.hid (by omega)
 have HNZ : Hid (¬ rs = rb) := Lib.hid (by omega)
 rw [hrs] at HZ0 ⊢
 clear hw0 hrb HR hrs
 refine (num_any rb a m cap xs p ys w0 HR0.out).mono ?_
 rintro e w1 ⟨hk, hr⟩
 have HK1 := Lib.hid (HK0.out.trans hk)
 have HZ1 := Lib.hid (hk.blk HZ0.out HNZ.out)
 have HSZ1 : Hid (w0.heap.size ≤ w1.heap.size) := Lib.hid hk.size
 clear hk
 cases hq1 : pn ys with
 | none =>
  rw [hq1] at hr
  have hr' : e = .panicked [{ v := stopV, recovered := false }] := hr
  subst hr'
  have HQ1 := Lib.hid hq1
  clear hr hq1
  have HD : Hid (strD true false true ys = none) := Lib.hid (by unfold strD; simp only [pb, HQ1.out, Bool.false_eq_true, if_false, if_true, ite_true, ite_false])
  go_wp2_with fail
  refine ⟨rfl, ?_⟩
  rw [HD.out]
  exact ReP.panic HK1.out
 | some x =>
  obtain ⟨v1, ys1⟩ := x
  rw [hq1] at hr
  obtain ⟨p1, val, rfl, rfl, hr⟩ := hr
  have hbd := pn_bd hq1
  have HU1 : Hid (inU v1) := Lib.hid ⟨hbd.1, by omega⟩
  have HV1 : Hid (0 ≤ v1 ∧ v1 ≤ 4611686018427387903) := Lib.hid ⟨hbd.1, hbd.2.1⟩
  have HQ1 := Lib.hid hq1
  have HR1 := Lib.hid hr
  clear hr hq1 hbd
  clear HR0 HK0 HZ0
  go_wp2_with fail
  refine calls_named ?_
  intro w2 hw2
  have HR2 : Hid (Re w2 rb a m cap xs p1 ys1) := Lib.hid (by rw [← hw2]; exact HR1.out.same ((Keeps.refl _ _).alloc _))
  have HK2 : Hid (Keeps (fun k => k = rb) w w2) := Lib.hid (by rw [← hw2]; exact HK1.out.alloc _)
  have HZ2 : Hid (Blk w2 rs #[.int .u64 0, .int .u64 0, .int .u64 0, .bool false, .int .u64 0, .int .u64 0, .int .u64 0, .slice none 0 0, .slice none 0 0, .bool false, .bool false, .int .i64 0] 32) := Lib.hid (by rw [← hw2]; exact HZ1.out.alloc _)
  have HL2 : Hid (Blk w2 w1.heap.size #[.int .u64 8, .int .u64 v1, .int .u64 0, .bool true, .int .u64 0, .int .u64 0, .int .u64 0, .slice none 0 0, .slice none 0 0, .bool false, .bool false, .int .i64 0] 32) := Lib.hid (by rw [← hw2]; exact Blk.new _ _ _)
  have hfb0 : rs < w1.heap.size := HZ1.out.lt
  have hfb1 : w.heap.size ≤ w1.heap.size := HK1.out.size
  have hfb2 : rb < w1.heap.size := HR1.out.k.lt
  have HFL2 : Hid (w1.heap.size < w2.heap.size) := Lib.hid HL2.out.lt
  clear hw2 HR1 HK1 HZ1
  generalize w1.heap.size = fb at *
  have HNL : Hid (¬ fb = rb) := Lib.hid (by omega)
  have HFB : Hid (rs ≠ fb ∧ w.heap.size ≤ fb) := Lib.hid ⟨Nat.ne_of_lt hfb0, hfb1⟩
  clear hfb0 hfb1 hfb2
  refine (rtext_any rb a m cap xs p1 ys1 w2 HR2.out).mono ?_
  rintro e w3 ⟨hk, hr⟩
  have HK3 := Lib.hid (HK2.out.trans hk)
  have HZ3 := Lib.hid (hk.blk HZ2.out HNZ.out)
  have HL3 := Lib.hid (hk.blk HL2.out HNL.out)
  have HSZ3 : Hid (w2.heap.size ≤ w3.heap.size) := Lib.hid hk.size
  clear hk
  cases hq2 : ptx ys1 with
  | none =>
   rw [hq2] at hr
   have hr' : e = .panicked [{ v := stopV, recovered := false }] := hr
   subst hr'
   have HQ2 := Lib.hid hq2
   clear hr hq2
   have HD : Hid (strD true false true ys = none) := Lib.hid (by unfold strD; simp only [pb, HQ1.out, HQ2.out, Bool.false_eq_true, if_false, if_true, ite_true, ite_false])
   go_wp2_with fail
   refine ⟨rfl, ?_⟩
   rw [HD.out]
   exact ReP.panic HK3.out
  | some x =>
   obtain ⟨bs, ys2⟩ := x
   rw [hq2] at hr
   obtain ⟨p2, val, rfl, ⟨a8, n8, c8, rfl, ho⟩, hr⟩ := hr
   have HQ2 := Lib.hid hq2
   have HR3 := Lib.hid hr
   have HO3 : Hid (Bo w2.heap.size w3 a8 n8 c8 bs) := Lib.hid ho
   have HOB : Hid (fb < w2.heap.size) := Lib.hid HL2.out.lt
   have HRB : Hid (rb < w2.heap.size) := Lib.hid HR2.out.k.lt
   have HOW : Hid (w.heap.size ≤ w2.heap.size) := Lib.hid HK2.out.size
   have HOR : Hid (rs < w2.heap.size) := Lib.hid HZ2.out.lt
   have HBL : Hid (bs.length ≤ 1000000) := Lib.hid (by have h1 := ptx_bd hq2; have h2 := HR2.out.len; omega)
   clear hr hq2 ho
   clear HR2 HK2 HZ2 HL2
   have x8 : w3.cell? ⟨fb, 8, none⟩ = some (.slice none 0 0) := HL3.out.cell 8
   have x2 : w3.cell? ⟨fb, 2, none⟩ = some (.int .u64 0) := HL3.out.cell 2
   have y8 : w3.frozen? ⟨fb, 8, none⟩ = false := HL3.out.free 8
   go_upto_region 7 with fail
   clear x8 x2 y8
   refine wp_named ?_
   intro w4 hw4
   have HR4 : Hid (Re w4 rb a m cap xs p2 ys2) := Lib.hid (by rw [← hw4]; exact HR3.out.keep ((Keeps.refl (fun k => k = fb) w3).put 8 (.slice a8 n8 c8)) (fun h => HNL.out h.symm) (fun b hb h => by have := HLT.out b hb; have := HFB.out.2; omega))
   have HK4 : Hid (Keeps (fun k => k = rb) w w4) := Lib.hid (by rw [← hw4]; exact (HK3.out.setCell (p := ⟨fb, 8, none⟩) (fun h => absurd h (by have := HFB.out.2; dsimp only; omega)) (.slice a8 n8 c8)))
   have HZ4 : Hid (Blk w4 rs #[.int .u64 0, .int .u64 0, .int .u64 0, .bool false, .int .u64 0, .int .u64 0, .int .u64 0, .slice none 0 0, .slice none 0 0, .bool false, .bool false, .int .i64 0] 32) := Lib.hid (by rw [← hw4]; exact ((Keeps.refl (fun k => k = fb) w3).put 8 (.slice a8 n8 c8)).blk HZ3.out HFB.out.1)
   have HL4 : Hid (Blk w4 fb #[.int .u64 8, .int .u64 v1, .int .u64 0, .bool true, .int .u64 0, .int .u64 0, .int .u64 0, .slice none 0 0, .slice a8 n8 c8, .bool false, .bool false, .int .i64 0] 32) := Lib.hid (by rw [← hw4]; exact (HL3.out.set 8 (.slice a8 n8 c8)).as rfl)
   have HO4 : Hid (Bo w2.heap.size w4 a8 n8 c8 bs) := Lib.hid (by rw [← hw4]; exact HO3.out.keep ((Keeps.refl (fun k => k = fb) w3).put 8 (.slice a8 n8 c8)) (fun b hb h => by have h1 := (HO3.out.ge b hb).1; have h2 := HOB.out; omega))
   clear hw4
   clear HR3 HK3 HZ3 HL3 HO3
   have x8 : w4.cell? ⟨fb, 8, none⟩ = some (.slice a8 n8 c8) := HL4.out.cell 8
   have x2 : w4.cell? ⟨fb, 2, none⟩ = some (.int .u64 0) := HL4.out.cell 2
   go_wp2_with fail
   clear x8 x2
   have HN8 : Hid (n8 = bs.length) := Lib.hid HO4.out.1
   have hn8 : n8 ≤ 1000000 := by have h1 := HBL.out; have h2 := HN8.out; omega
   refine (end_any 0 n8 w4 (by have := HV1.out; omega) (by have := HV1.out; omega) hn8).mono ?_
   rintro e w5 ⟨he, rfl⟩
   cases hen : endB 0 n8 with
   | false =>
    have HEN : Hid (endB 0 bs.length = false) := Lib.hid (by rw [← HN8.out]; exact hen)
    rw [hen, if_neg (by decide)] at he
    subst he
    clear hen
    have HD : Hid (strD true false true ys = none) := Lib.hid (by unfold strD; simp only [pb, HQ1.out, HQ2.out, HEN.out, Bool.false_eq_true, if_false, if_true, ite_true, ite_false])
    go_wp2_with fail
    refine ⟨rfl, ?_⟩
    rw [HD.out]
    exact ReP.panic HK4.out
   | true =>
    have HEN : Hid (endB 0 bs.length = true) := Lib.hid (by rw [← HN8.out]; exact hen)
    rw [hen, if_pos rfl] at he
    subst he
    clear hen
    have HD : Hid (strD true false true ys = some (⟨8, v1, 0, true, 0, 0, 0, [], bs, false, false, 0⟩, ys2)) := Lib.hid (by unfold strD; simp only [pb, HQ1.out, HQ2.out, HEN.out, Bool.false_eq_true, if_false, if_true, ite_true, ite_false])
    obtain ⟨x0, x1, x2, x3, x4, x5, x6, x7, x8, x9, x10, x11⟩ := q12_cells HL4.out
    obtain ⟨t0, t1, t2, t3, t4, t5, t6, t7, t8, t9, t10, t11⟩ := q12_cells HZ4.out
    obtain ⟨z0, z1, z2, z3, z4, z5, z6, z7, z8, z9, z10, z11⟩ := q12_free HZ4.out
    go_wp2_with fail
    refine bodyPost_ret (v := ?_) ?_ (by kernel_rfl) ?_
    rotate_left
    ·exact rstream_results _ _ rs (by kernel_rfl) (qs_blk HZ4.out _ _ _ _ _ _ _ _ _ _ _ _)
    refine ⟨qs_keep HK4.out (fun h => absurd h (by have := HRS.out; omega)) _ _ _ _ _ _ _ _ _ _ _ _, ?_⟩
    rw [HD.out]
    refine ⟨p2, _, rfl, ⟨_, ?_, rfl, Qn.bytes _ _ _ _ _ _ _ _ _ _ ⟨by omega, by omega⟩ HU1.out inU_0 inU_0 inU_0 _ _ _ _ ((HO4.out.keep (qs_keep (S := fun k => k = rs) (Keeps.refl _ _) (fun _ => rfl) _ _ _ _ _ _ _ _ _ _ _ _) (fun b hb h => by have h1 := (HO4.out.ge b hb).1; have h2 := HOR.out; omega)).mono HOW.out)⟩, HR4.out.keep (qs_keep (S := fun k => k = rs) (Keeps.refl _ _) (fun _ => rfl) _ _ _ _ _ _ _ _ _ _ _ _) (fun h => HNZ.out h.symm) (fun b hb h => by have h1 := HLT.out b hb; have h2 := HRS.out; omega)⟩
    rfl

set_option maxRecDepth 100000 in
set_option maxHeartbeats 3200000 in
theorem rstream_12 (rb : Nat) (a : Option Addr) (m cap : Nat) (xs : List UInt8) (p : Nat) (ys : List UInt8) (w : World) (hr : Re w rb a m cap xs p ys) (hlt : ∀ b, a.map (·.block) = some b → b < w.heap.size) :
  Calls Try.prog 52 #[.pointer (some ⟨rb, 0, none⟩), .int .u64 12] w (ReP rb a m cap xs (vFrame w.heap.size) (strD false true false ys) w) := by
 have HLT := Lib.hid hlt
 have HR := Lib.hid hr
 have hlm : m ≤ 1000000 := hr.small
 have hrb := hr.k.lt
 have b1 : bits .and .u64 12 1 = 0 := by decide +kernel
 have b4 : bits .and .u64 12 4 = 4 := by decide +kernel
 have b2 : bits .and .u64 12 2 = 0 := by decide +kernel
 clear hr hlt
 go_enter Try.func52, Try.ntmps52
 go_wp2_with fail
 refine calls_named ?_
 intro w0 hw0
 have HR0 : Hid (Re w0 rb a m cap xs p ys) := Lib.hid (by rw [← hw0]; exact HR.out.same ((Keeps.refl _ _).alloc _))
 have HK0 : Hid (Keeps (fun k => k = rb) w w0) := Lib.hid (by rw [← hw0]; exact (Keeps.refl _ _).alloc _)
 have HZ0 : Hid (Blk w0 w.heap.size #[.int .u64 0, .int .u64 0, .int .u64 0, .bool false, .int .u64 0, .int .u64 0, .int .u64 0, .slice none 0 0, .slice none 0 0, .bool false, .bool false, .int .i64 0] 32) := Lib.hid (by rw [← hw0]; exact Blk.new _ _ _)
 obtain ⟨rs, hrs⟩ : ∃ rs, w.heap.size = rs := ⟨_, rfl⟩
 have HRS : Hid (w.heap.size ≤ rs) := Lib.hid (by omega)
 have HNZ : Hid (¬ rs = rb) := Lib.hid (by omega)
 rw [hrs] at HZ0 ⊢
 clear hw0 hrb HR hrs
 refine (num_any rb a m cap xs p ys w0 HR0.out).mono ?_
 rintro e w1 ⟨hk, hr⟩
 have HK1 := Lib.hid (HK0.out.trans hk)
 have HZ1 := Lib.hid (hk.blk HZ0.out HNZ.out)
 have HSZ1 : Hid (w0.heap.size ≤ w1.heap.size) := Lib.hid hk.size
 clear hk
 cases hq1 : pn ys with
 | none =>
  rw [hq1] at hr
  have hr' : e = .panicked [{ v := stopV, recovered := false }] := hr
  subst hr'
  have HQ1 := Lib.hid hq1
  clear hr hq1
  have HD : Hid (strD false true false ys = none) := Lib.hid (by unfold strD; simp only [pb, HQ1.out, Bool.false_eq_true, if_false, if_true, ite_true, ite_false])
  go_wp2_with fail
  refine ⟨rfl, ?_⟩
  rw [HD.out]
  exact ReP.panic HK1.out
 | some x =>
  obtain ⟨v1, ys1⟩ := x
  rw [hq1] at hr
  obtain ⟨p1, val, rfl, rfl, hr⟩ := hr
  have hbd := pn_bd hq1
  have HU1 : Hid (inU v1) := Lib.hid ⟨hbd.1, by omega⟩
  have HV1 : Hid (0 ≤ v1 ∧ v1 ≤ 4611686018427387903) := Lib.hid ⟨hbd.1, hbd.2.1⟩
  have HQ1 := Lib.hid hq1
  have HR1 := Lib.hid hr
  clear hr hq1 hbd
  clear HR0 HK0 HZ0
  go_wp2_with fail
  refine calls_named ?_
  intro w2 hw2
  have HR2 : Hid (Re w2 rb a m cap xs p1 ys1) := Lib.hid (by rw [← hw2]; exact HR1.out.same ((Keeps.refl _ _).alloc _))
  have HK2 : Hid (Keeps (fun k => k = rb) w w2) := Lib.hid (by rw [← hw2]; exact HK1.out.alloc _)
  have HZ2 : Hid (Blk w2 rs #[.int .u64 0, .int .u64 0, .int .u64 0, .bool false, .int .u64 0, .int .u64 0, .int .u64 0, .slice none 0 0, .slice none 0 0, .bool false, .bool false, .int .i64 0] 32) := Lib.hid (by rw [← hw2]; exact HZ1.out.alloc _)
  have HL2 : Hid (Blk w2 w1.heap.size #[.int .u64 8, .int .u64 v1, .int .u64 0, .bool false, .int .u64 0, .int .u64 0, .int .u64 0, .slice none 0 0, .slice none 0 0, .bool false, .bool false, .int .i64 0] 32) := Lib.hid (by rw [← hw2]; exact Blk.new _ _ _)
  have hfb0 : rs < w1.heap.size := HZ1.out.lt
  have hfb1 : w.heap.size ≤ w1.heap.size := HK1.out.size
  have hfb2 : rb < w1.heap.size := HR1.out.k.lt
  have HFL2 : Hid (w1.heap.size < w2.heap.size) := Lib.hid HL2.out.lt
  clear hw2 HR1 HK1 HZ1
  generalize w1.heap.size = fb at *
  have HNL : Hid (¬ fb = rb) := Lib.hid (by omega)
  have HFB : Hid (rs ≠ fb ∧ w.heap.size ≤ fb) := Lib.hid ⟨Nat.ne_of_lt hfb0, hfb1⟩
  clear hfb0 hfb1 hfb2
  refine (num_any rb a m cap xs p1 ys1 w2 HR2.out).mono ?_
  rintro e w3 ⟨hk, hr⟩
  have HK3 := Lib.hid (HK2.out.trans hk)
  have HZ3 := Lib.hid (hk.blk HZ2.out HNZ.out)
  have HL3 := Lib.hid (hk.blk HL2.out HNL.out)
  have HSZ3 : Hid (w2.heap.size ≤ w3.heap.size) := Lib.hid hk.size
  clear hk
  cases hq2 : pn ys1 with
  | none =>
   rw [hq2] at hr
   have hr' : e = .panicked [{ v := stopV, recovered := false }] := hr
   subst hr'
   have HQ2 := Lib.hid hq2
   clear hr hq2
   have HD : Hid (strD false true false ys = none) := Lib.hid (by unfold strD; simp only [pb, HQ1.out, HQ2.out, Bool.false_eq_true, if_false, if_true, ite_true, ite_false])
   go_wp2_with fail
   refine ⟨rfl, ?_⟩
   rw [HD.out]
   exact ReP.panic HK3.out
  | some x =>
   obtain ⟨v2, ys2⟩ := x
   rw [hq2] at hr
   obtain ⟨p2, val, rfl, rfl, hr⟩ := hr
   have hbd := pn_bd hq2
   have HU2 : Hid (inU v2) := Lib.hid ⟨hbd.1, by omega⟩
   have HV2 : Hid (0 ≤ v2 ∧ v2 ≤ 4611686018427387903) := Lib.hid ⟨hbd.1, hbd.2.1⟩
   have HQ2 := Lib.hid hq2
   have HR3 := Lib.hid hr
   clear hr hq2 hbd
   clear HR2 HK2 HZ2 HL2
   have x2 : w3.cell? ⟨fb, 2, none⟩ = some (.int .u64 0) := HL3.out.cell 2
   have y2 : w3.frozen? ⟨fb, 2, none⟩ = false := HL3.out.free 2
   go_wp2_with fail
   clear x2 y2
   go_upto_region 6 with fail
   refine wp_named ?_
   intro w4 hw4
   have HR4 : Hid (Re w4 rb a m cap xs p2 ys2) := Lib.hid (by rw [← hw4]; exact HR3.out.keep ((Keeps.refl (fun k => k = fb) w3).put 2 (.int .u64 v2)) (fun h => HNL.out h.symm) (fun b hb h => by have := HLT.out b hb; have := HFB.out.2; omega))
   have HK4 : Hid (Keeps (fun k => k = rb) w w4) := Lib.hid (by rw [← hw4]; exact (HK3.out.setCell (p := ⟨fb, 2, none⟩) (fun h => absurd h (by have := HFB.out.2; dsimp only; omega)) (.int .u64 v2)))
   have HZ4 : Hid (Blk w4 rs #[.int .u64 0, .int .u64 0, .int .u64 0, .bool false, .int .u64 0, .int .u64 0, .int .u64 0, .slice none 0 0, .slice none 0 0, .bool false, .bool false, .int .i64 0] 32) := Lib.hid (by rw [← hw4]; exact ((Keeps.refl (fun k => k = fb) w3).put 2 (.int .u64 v2)).blk HZ3.out HFB.out.1)
   have HL4 : Hid (Blk w4 fb #[.int .u64 8, .int .u64 v1, .int .u64 v2, .bool false, .int .u64 0, .int .u64 0, .int .u64 0, .slice none 0 0, .slice none 0 0, .bool false, .bool false, .int .i64 0] 32) := Lib.hid (by rw [← hw4]; exact (HL3.out.set 2 (.int .u64 v2)).as rfl)
   clear hw4
   clear HR3 HK3 HZ3 HL3
   have c0 : w4.cell? ⟨rb, 0, none⟩ = some (.slice a m cap) := HR4.out.k.cell 0
   have c1 : w4.cell? ⟨rb, 1, none⟩ = some (.int .i64 (p2 : Int)) := HR4.out.k.cell 1
   obtain ⟨L, hL⟩ : ∃ L : Nat, (m : Int) - (p2 : Int) = (L : Int) := ⟨m - p2, by have := HR4.out.le; omega⟩
   have HLm : Hid (L = m - p2) := Lib.hid (by omega)
   have HLY : Hid (ptk L ys2 = some (ys2, [])) := Lib.hid (by
    have h := HR4.out.len
    have h3 := HLm.out
    rw [ptk_yes (by omega), List.take_of_length_le (by omega), List.drop_of_length_le (by omega)])
   have HBL : Hid (ys2.length ≤ 1000000) := Lib.hid (by have h2 := HR4.out.len; omega)
   have hwi : IntKind.i64.wrap (L : Int) = (L : Int) := by rw [IntKind.wrap_i64]; omega
   have hwu : IntKind.u64.wrap (L : Int) = (L : Int) := by rw [IntKind.wrap_u64]; omega
   have HRd := Lib.hid (HR4.out.same ((Keeps.refl _ _).drew))
   refine y_begin (fun _ => True) (fun w' => w'.cell? ⟨rb, 0, none⟩ = some (.slice a m cap) ∧ w'.cell? ⟨rb, 1, none⟩ = some (.int .i64 (p2 : Int))) 12 (by kernel_rfl) ?_
   have hS : (fun _ : World => True) w4.drew := trivial
   have hT : (fun w' : World => w'.cell? ⟨rb, 0, none⟩ = some (.slice a m cap) ∧ w'.cell? ⟨rb, 1, none⟩ = some (.int .i64 (p2 : Int))) w4.drew := ⟨c0, c1⟩
   refine y_take0 (i := 0) (v := ?_) rfl (by kernel_rfl) (by kernel_rfl) (by kernel_rfl) (by decide) (fun _ _ _ h => h) (Or.inl ⟨by kernel_rfl, ?_⟩) ⟨hS, fun _ => hT⟩ ?_
   rotate_left
   ·intro wz _; go_simp; try with_reducible rfl
   refine y_take0 (i := 1) (v := ?_) rfl (by kernel_rfl) (by kernel_rfl) (by kernel_rfl) (by decide) (fun _ _ _ h => h) (Or.inl ⟨by kernel_rfl, ?_⟩) ⟨hS, fun _ => hT⟩ ?_
   rotate_left
   ·intro wz _; go_simp; try with_reducible rfl
   refine y_take0 (i := 2) (v := ?_) rfl (by kernel_rfl) (by kernel_rfl) (by kernel_rfl) (by decide) (fun _ _ _ h => h) (Or.inl ⟨by kernel_rfl, ?_⟩) ⟨hS, fun _ => hT⟩ ?_
   rotate_left
   ·intro wz _; go_simp; try with_reducible rfl
   refine y_take0 (i := 3) (v := ?_) rfl (by kernel_rfl) (by kernel_rfl) (by kernel_rfl) (by decide) (fun _ _ _ h => h) (Or.inl ⟨by kernel_rfl, ?_⟩) ⟨hS, fun _ => hT⟩ ?_
   rotate_left
   ·intro wz _; go_simp; try with_reducible rfl
   refine y_takeS (i := 4) (v := ?_) rfl (by kernel_rfl) (by kernel_rfl) (by kernel_rfl) (by decide) [5, 10, 11, 12] (by kernel_rfl) (by kernel_rfl) (by kernel_rfl) (fun _ _ _ h => h) (Or.inl ⟨by kernel_rfl, ?_⟩) ⟨hS, fun _ => hT⟩ ?_
   rotate_left
   ·intro wz ⟨_, _⟩; go_simp; try with_reducible rfl
   refine y_take0 (i := 5) (v := ?_) rfl (by kernel_rfl) (by kernel_rfl) (by kernel_rfl) (by decide) (fun _ _ _ h => h) (Or.inl ⟨by kernel_rfl, ?_⟩) ⟨hS, fun _ => hT⟩ ?_
   rotate_left
   ·intro wz _; go_simp; try with_reducible rfl
   refine y_take0 (i := 6) (v := ?_) rfl (by kernel_rfl) (by kernel_rfl) (by kernel_rfl) (by decide) (fun _ _ _ h => h) (Or.inl ⟨by kernel_rfl, ?_⟩) ⟨hS, fun _ => hT⟩ ?_
   rotate_left
   ·intro wz _; go_simp; try with_reducible rfl
   refine y_take0 (i := 7) (v := ?_) rfl (by kernel_rfl) (by kernel_rfl) (by kernel_rfl) (by decide) (fun _ _ _ h => h) (Or.inl ⟨by kernel_rfl, ?_⟩) ⟨hS, fun _ => hT⟩ ?_
   rotate_left
   ·intro wz _; go_simp; try with_reducible rfl
   refine y_take0 (i := 8) (v := ?_) rfl (by kernel_rfl) (by kernel_rfl) (by kernel_rfl) (by decide) (fun _ _ _ h => h) (Or.inl ⟨by kernel_rfl, ?_⟩) ⟨hS, fun _ => hT⟩ ?_
   rotate_left
   ·intro wz _; go_simp; try with_reducible rfl
   refine y_takeS (i := 9) (v := ?_) rfl (by kernel_rfl) (by kernel_rfl) (by kernel_rfl) (by decide) [10, 11, 12] (by kernel_rfl) (by kernel_rfl) (by kernel_rfl) (fun _ _ _ h => h) (Or.inl ⟨by kernel_rfl, ?_⟩) ⟨hS, fun _ => hT⟩ ?_
   rotate_left
   ·intro wz ⟨_, _⟩; go_simp; try with_reducible rfl
   refine y_take0 (i := 10) (v := .int .i64 (L : Int)) rfl (by kernel_rfl) (by kernel_rfl) (by kernel_rfl) (by decide) (fun _ _ _ h => h) (Or.inl ⟨by kernel_rfl, ?_⟩) ⟨hS, fun _ => hT⟩ ?_
   ·intro wz _; go_simp; try rw [hL]; try rw [hwi]; try with_reducible rfl; try rfl
   refine y_take0 (i := 11) (v := .int .u64 (L : Int)) rfl (by kernel_rfl) (by kernel_rfl) (by kernel_rfl) (by decide) (fun _ _ _ h => h) (Or.inl ⟨by kernel_rfl, ?_⟩) ⟨hS, fun _ => hT⟩ ?_
   ·intro wz _; go_simp; try rw [hwu]; try with_reducible rfl; try rfl
   refine y_call 60 #[.pointer (some ⟨rb, 0, none⟩), .int .u64 (L : Int)] rfl (by kernel_rfl) (by kernel_rfl) (by kernel_rfl) (by kernel_rfl) ?_
   refine (take_yes rb a m cap xs p2 L ys2 w4.drew HRd.out (by have := HLm.out; omega)).mono ?_
   rintro e w5 ⟨hk, hr⟩
   rw [HLY.out] at hr
   obtain ⟨p9, val, rfl, ⟨a8, n8, c8, rfl, ho⟩, hr⟩ := hr
   refine ⟨_, rfl, trivial, ?_⟩
   clear hS hT c0 c1 hL hwi hwu
   have hS : (fun _ : World => True) w5 := trivial
   have hkd := (Keeps.refl (fun k => k = rb) w4).drew.trans hk
   have HK5 := Lib.hid (HK4.out.trans hkd)
   have HZ5 := Lib.hid (hkd.blk HZ4.out HNZ.out)
   have HL5 := Lib.hid (hkd.blk HL4.out HNL.out)
   have HR5 := Lib.hid hr
   have HO5 : Hid (Bo w4.heap.size w5 a8 n8 c8 ys2) := Lib.hid ho
   have HOB : Hid (fb < w4.heap.size) := Lib.hid HL4.out.lt
   have HRB : Hid (rb < w4.heap.size) := Lib.hid HR4.out.k.lt
   have HOW : Hid (w.heap.size ≤ w4.heap.size) := Lib.hid HK4.out.size
   have HOR : Hid (rs < w4.heap.size) := Lib.hid HZ4.out.lt
   clear hr ho hk hkd HRd
   clear HR4 HK4 HZ4 HL4
   have x8 : w5.cell? ⟨fb, 8, none⟩ = some (.slice none 0 0) := HL5.out.cell 8
   have x2 : w5.cell? ⟨fb, 2, none⟩ = some (.int .u64 v2) := HL5.out.cell 2
   have y8 : w5.frozen? ⟨fb, 8, none⟩ = false := HL5.out.free 8
   refine y_take1 (i := 13) (v := ?_) rfl (by kernel_rfl) (by kernel_rfl) (by kernel_rfl) (by decide) (by kernel_rfl) (fun _ _ _ h => h) (Or.inl ⟨by kernel_rfl, ?_⟩) hS ?_
   rotate_left
   ·intro wz _; go_simp; try with_reducible rfl
   refine y_skip (i := 14) (w5.setCell ⟨fb, 8, none⟩ (.slice a8 n8 c8)) rfl (by kernel_rfl) (by kernel_rfl) (by kernel_rfl) ?_ trivial ?_
   ·go_simp; try with_reducible rfl
   refine y_done (by kernel_rfl) ?_ _
   clear hS x8 x2 y8
   refine thenX_named ?_
   intro w6 hw6
   have HR6 : Hid (Re w6 rb a m cap xs p9 []) := Lib.hid (by rw [← hw6]; exact HR5.out.keep ((Keeps.refl (fun k => k = fb) w5).put 8 (.slice a8 n8 c8)) (fun h => HNL.out h.symm) (fun b hb h => by have := HLT.out b hb; have := HFB.out.2; omega))
   have HK6 : Hid (Keeps (fun k => k = rb) w w6) := Lib.hid (by rw [← hw6]; exact (HK5.out.setCell (p := ⟨fb, 8, none⟩) (fun h => absurd h (by have := HFB.out.2; dsimp only; omega)) (.slice a8 n8 c8)))
   have HZ6 : Hid (Blk w6 rs #[.int .u64 0, .int .u64 0, .int .u64 0, .bool false, .int .u64 0, .int .u64 0, .int .u64 0, .slice none 0 0, .slice none 0 0, .bool false, .bool false, .int .i64 0] 32) := Lib.hid (by rw [← hw6]; exact ((Keeps.refl (fun k => k = fb) w5).put 8 (.slice a8 n8 c8)).blk HZ5.out HFB.out.1)
   have HL6 : Hid (Blk w6 fb #[.int .u64 8, .int .u64 v1, .int .u64 v2, .bool false, .int .u64 0, .int .u64 0, .int .u64 0, .slice none 0 0, .slice a8 n8 c8, .bool false, .bool false, .int .i64 0] 32) := Lib.hid (by rw [← hw6]; exact (HL5.out.set 8 (.slice a8 n8 c8)).as rfl)
   have HO6 : Hid (Bo w4.heap.size w6 a8 n8 c8 ys2) := Lib.hid (by rw [← hw6]; exact HO5.out.keep ((Keeps.refl (fun k => k = fb) w5).put 8 (.slice a8 n8 c8)) (fun b hb h => by have h1 := (HO5.out.ge b hb).1; have h2 := HOB.out; omega))
   clear hw6
   clear HR5 HK5 HZ5 HL5 HO5
   have x8 : w6.cell? ⟨fb, 8, none⟩ = some (.slice a8 n8 c8) := HL6.out.cell 8
   have x2 : w6.cell? ⟨fb, 2, none⟩ = some (.int .u64 v2) := HL6.out.cell 2
   go_wp2_with fail
   clear x8 x2
   have HN8 : Hid (n8 = ys2.length) := Lib.hid HO6.out.1
   have hn8 : n8 ≤ 1000000 := by have h1 := HBL.out; have h2 := HN8.out; omega
   refine (end_any v2 n8 w6 (by have := HV2.out; omega) (by have := HV2.out; omega) hn8).mono ?_
   rintro e w7 ⟨he, rfl⟩
   cases hen : endB v2 n8 with
   | false =>
    have HEN : Hid (endB v2 ys2.length = false) := Lib.hid (by rw [← HN8.out]; exact hen)
    rw [hen, if_neg (by decide)] at he
    subst he
    clear hen
    have HD : Hid (strD false true false ys = none) := Lib.hid (by unfold strD; simp only [pb, HQ1.out, HQ2.out, HEN.out, Bool.false_eq_true, if_false, if_true, ite_true, ite_false])
    go_wp2_with fail
    refine ⟨rfl, ?_⟩
    rw [HD.out]
    exact ReP.panic HK6.out
   | true =>
    have HEN : Hid (endB v2 ys2.length = true) := Lib.hid (by rw [← HN8.out]; exact hen)
    rw [hen, if_pos rfl] at he
    subst he
    clear hen
    have HD : Hid (strD false true false ys = some (⟨8, v1, v2, false, 0, 0, 0, [], ys2, false, false, 0⟩, [])) := Lib.hid (by unfold strD; simp only [pb, HQ1.out, HQ2.out, HEN.out, Bool.false_eq_true, if_false, if_true, ite_true, ite_false])
    obtain ⟨x0, x1, x2, x3, x4, x5, x6, x7, x8, x9, x10, x11⟩ := q12_cells HL6.out
    obtain ⟨t0, t1, t2, t3, t4, t5, t6, t7, t8, t9, t10, t11⟩ := q12_cells HZ6.out
    obtain ⟨z0, z1, z2, z3, z4, z5, z6, z7, z8, z9, z10, z11⟩ := q12_free HZ6.out
    go_wp2_with fail
    refine bodyPost_ret (v := ?_) ?_ (by kernel_rfl) ?_
    rotate_left
    ·exact rstream_results _ _ rs (by kernel_rfl) (qs_blk HZ6.out _ _ _ _ _ _ _ _ _ _ _ _)
    refine ⟨qs_keep HK6.out (fun h => absurd h (by have := HRS.out; omega)) _ _ _ _ _ _ _ _ _ _ _ _, ?_⟩
    rw [HD.out]
    refine ⟨p9, _, rfl, ⟨_, ?_, rfl, Qn.bytes _ _ _ _ _ _ _ _ _ _ ⟨by omega, by omega⟩ HU1.out HU2.out inU_0 inU_0 _ _ _ _ ((HO6.out.keep (qs_keep (S := fun k => k = rs) (Keeps.refl _ _) (fun _ => rfl) _ _ _ _ _ _ _ _ _ _ _ _) (fun b hb h => by have h1 := (HO6.out.ge b hb).1; have h2 := HOR.out; omega)).mono HOW.out)⟩, HR6.out.keep (qs_keep (S := fun k => k = rs) (Keeps.refl _ _) (fun _ => rfl) _ _ _ _ _ _ _ _ _ _ _ _) (fun h => HNZ.out h.symm) (fun b hb h => by have h1 := HLT.out b hb; have h2 := HRS.out; omega)⟩
    rfl

set_option maxRecDepth 100000 in
set_option maxHeartbeats 3200000 in
theorem rstream_13 (rb : Nat) (a : Option Addr) (m cap : Nat) (xs : List UInt8) (p : Nat) (ys : List UInt8) (w : World) (hr : Re w rb a m cap xs p ys) (hlt : ∀ b, a.map (·.block) = some b → b < w.heap.size) :
  Calls Try.prog 52 #[.pointer (some ⟨rb, 0, none⟩), .int .u64 13] w (ReP rb a m cap xs (vFrame w.heap.size) (strD true true false ys) w) := by
 have HLT := Lib.hid hlt
 have HR := Lib.hid hr
 have hlm : m ≤ 1000000 := hr.small
 have hrb := hr.k.lt
 have b1 : bits .and .u64 13 1 = 1 := by decide +kernel
 have b4 : bits .and .u64 13 4 = 4 := by decide +kernel
 have b2 : bits .and .u64 13 2 = 0 := by decide +kernel
 clear hr hlt
 go_enter Try.func52, Try.ntmps52
 go_wp2_with fail
 refine calls_named ?_
 intro w0 hw0
 have HR0 : Hid (Re w0 rb a m cap xs p ys) := Lib.hid (by rw [← hw0]; exact HR.out.same ((Keeps.refl _ _).alloc _))
 have HK0 : Hid (Keeps (fun k => k = rb) w w0) := Lib.hid (by rw [← hw0]; exact (Keeps.refl _ _).alloc _)
 have HZ0 : Hid (Blk w0 w.heap.size #[.int .u64 0, .int .u64 0, .int .u64 0, .bool false, .int .u64 0, .int .u64 0, .int .u64 0, .slice none 0 0, .slice none 0 0, .bool false, .bool false, .int .i64 0] 32) := Lib.hid (by rw [← hw0]; exact Blk.new _ _ _)
 obtain ⟨rs, hrs⟩ : ∃ rs, w.heap.size = rs := ⟨_, rfl⟩
 have HRS : Hid (w.heap.size ≤ rs) := Lib.hid (by omega)
 have HNZ : Hid (¬ rs = rb) := Lib.hid (by omega)
 rw [hrs] at HZ0 ⊢
 clear hw0 hrb HR hrs
 refine (num_any rb a m cap xs p ys w0 HR0.out).mono ?_
 rintro e w1 ⟨hk, hr⟩
 have HK1 := Lib.hid (HK0.out.trans hk)
 have HZ1 := Lib.hid (hk.blk HZ0.out HNZ.out)
 have HSZ1 : Hid (w0.heap.size ≤ w1.heap.size) := Lib.hid hk.size
 clear hk
 cases hq1 : pn ys with
 | none =>
  rw [hq1] at hr
  have hr' : e = .panicked [{ v := stopV, recovered := false }] := hr
  subst hr'
  have HQ1 := Lib.hid hq1
  clear hr hq1
  have HD : Hid (strD true true false ys = none) := Lib.hid (by unfold strD; simp only [pb, HQ1.out, Bool.false_eq_true, if_false, if_true, ite_true, ite_false])
  go_wp2_with fail
  refine ⟨rfl, ?_⟩
  rw [HD.out]
  exact ReP.panic HK1.out
 | some x =>
  obtain ⟨v1, ys1⟩ := x
  rw [hq1] at hr
  obtain ⟨p1, val, rfl, rfl, hr⟩ := hr
  have hbd := pn_bd hq1
  have HU1 : Hid (inU v1) := Lib.hid ⟨hbd.1, by omega⟩
  have HV1 : Hid (0 ≤ v1 ∧ v1 ≤ 4611686018427387903) := Lib.hid ⟨hbd.1, hbd.2.1⟩
  have HQ1 := Lib.hid hq1
  have HR1 := Lib.hid hr
  clear hr hq1 hbd
  clear HR0 HK0 HZ0
  go_wp2_with fail
  refine calls_named ?_
  intro w2 hw2
  have HR2 : Hid (Re w2 rb a m cap xs p1 ys1) := Lib.hid (by rw [← hw2]; exact HR1.out.same ((Keeps.refl _ _).alloc _))
  have HK2 : Hid (Keeps (fun k => k = rb) w w2) := Lib.hid (by rw [← hw2]; exact HK1.out.alloc _)
  have HZ2 : Hid (Blk w2 rs #[.int .u64 0, .int .u64 0, .int .u64 0, .bool false, .int .u64 0, .int .u64 0, .int .u64 0, .slice none 0 0, .slice none 0 0, .bool false, .bool false, .int .i64 0] 32) := Lib.hid (by rw [← hw2]; exact HZ1.out.alloc _)
  have HL2 : Hid (Blk w2 w1.heap.size #[.int .u64 8, .int .u64 v1, .int .u64 0, .bool true, .int .u64 0, .int .u64 0, .int .u64 0, .slice none 0 0, .slice none 0 0, .bool false, .bool false, .int .i64 0] 32) := Lib.hid (by rw [← hw2]; exact Blk.new _ _ _)
  have hfb0 : rs < w1.heap.size := HZ1.out.lt
  have hfb1 : w.heap.size ≤ w1.heap.size := HK1.out.size
  have hfb2 : rb < w1.heap.size := HR1.out.k.lt
  have HFL2 : Hid (w1.heap.size < w2.heap.size) := Lib.hid HL2.out.lt
  clear hw2 HR1 HK1 HZ1
  generalize w1.heap.size = fb at *
  have HNL : Hid (¬ fb = rb) := Lib.hid (by omega)
  have HFB : Hid (rs ≠ fb ∧ w.heap.size ≤ fb) := Lib.hid ⟨Nat.ne_of_lt hfb0, hfb1⟩
  clear hfb0 hfb1 hfb2
  refine (num_any rb a m cap xs p1 ys1 w2 HR2.out).mono ?_
  rintro e w3 ⟨hk, hr⟩
  have HK3 := Lib.hid (HK2.out.trans hk)
  have HZ3 := Lib.hid (hk.blk HZ2.out HNZ.out)
  have HL3 := Lib.hid (hk.blk HL2.out HNL.out)
  have HSZ3 : Hid (w2.heap.size ≤ w3.heap.size) := Lib.hid hk.size
  clear hk
  cases hq2 : pn ys1 with
  | none =>
   rw [hq2] at hr
   have hr' : e = .panicked [{ v := stopV, recovered := false }] := hr
   subst hr'
   have HQ2 := Lib.hid hq2
   clear hr hq2
   have HD : Hid (strD true true false ys = none) := Lib.hid (by unfold strD; simp only [pb, HQ1.out, HQ2.out, Bool.false_eq_true, if_false, if_true, ite_true, ite_false])
   go_wp2_with fail
   refine ⟨rfl, ?_⟩
   rw [HD.out]
   exact ReP.panic HK3.out
  | some x =>
   obtain ⟨v2, ys2⟩ := x
   rw [hq2] at hr
   obtain ⟨p2, val, rfl, rfl, hr⟩ := hr
   have hbd := pn_bd hq2
   have HU2 : Hid (inU v2) := Lib.hid ⟨hbd.1, by omega⟩
   have HV2 : Hid (0 ≤ v2 ∧ v2 ≤ 4611686018427387903) := Lib.hid ⟨hbd.1, hbd.2.1⟩
   have HQ2 := Lib.hid hq2
   have HR3 := Lib.hid hr
   clear hr hq2 hbd
   clear HR2 HK2 HZ2 HL2
   have x2 : w3.cell? ⟨fb, 2, none⟩ = some (.int .u64 0) := HL3.out.cell 2
   have y2 : w3.frozen? ⟨fb, 2, none⟩ = false := HL3.out.free 2
   go_wp2_with fail
   clear x2 y2
   go_upto_region 6 with fail
   refine wp_named ?_
   intro w4 hw4
   have HR4 : Hid (Re w4 rb a m cap xs p2 ys2) := Lib.hid (by rw [← hw4]; exact HR3.out.keep ((Keeps.refl (fun k => k = fb) w3).put 2 (.int .u64 v2)) (fun h => HNL.out h.symm) (fun b hb h => by have := HLT.out b hb; have := HFB.out.2; omega))
   have HK4 : Hid (Keeps (fun k => k = rb) w w4) := Lib.hid (by rw [← hw4]; exact (HK3.out.setCell (p := ⟨fb, 2, none⟩) (fun h => absurd h (by have := HFB.out.2; dsimp only; omega)) (.int .u64 v2)))
   have HZ4 : Hid (Blk w4 rs #[.int .u64 0, .int .u64 0, .int .u64 0, .bool false, .int .u64 0, .int .u64 0, .int .u64 0, .slice none 0 0, .slice none 0 0, .bool false, .bool false, .int .i64 0] 32) := Lib.hid (by rw [← hw4]; exact ((Keeps.refl (fun k => k = fb) w3).put 2 (.int .u64 v2)).blk HZ3.out HFB.out.1)
   have HL4 : Hid (Blk w4 fb #[.int .u64 8, .int .u64 v1, .int .u64 v2, .bool true, .int .u64 0, .int .u64 0, .int .u64 0, .slice none 0 0, .slice none 0 0, .bool false, .bool false, .int .i64 0] 32) := Lib.hid (by rw [← hw4]; exact (HL3.out.set 2 (.int .u64 v2)).as rfl)
   clear hw4
   clear HR3 HK3 HZ3 HL3
   have c0 : w4.cell? ⟨rb, 0, none⟩ = some (.slice a m cap) := HR4.out.k.cell 0
   have c1 : w4.cell? ⟨rb, 1, none⟩ = some (.int .i64 (p2 : Int)) := HR4.out.k.cell 1
   obtain ⟨L, hL⟩ : ∃ L : Nat, (m : Int) - (p2 : Int) = (L : Int) := ⟨m - p2, by have := HR4.out.le; omega⟩
   have HLm : Hid (L = m - p2) := Lib.hid (by omega)
   have HLY : Hid (ptk L ys2 = some (ys2, [])) := Lib.hid (by
    have h := HR4.out.len
    have h3 := HLm.out
    rw [ptk_yes (by omega), List.take_of_length_le (by omega), List.drop_of_length_le (by omega)])
   have HBL : Hid (ys2.length ≤ 1000000) := Lib.hid (by have h2 := HR4.out.len; omega)
   have hwi : IntKind.i64.wrap (L : Int) = (L : Int) := by rw [IntKind.wrap_i64]; omega
   have hwu : IntKind.u64.wrap (L : Int) = (L : Int) := by rw [IntKind.wrap_u64]; omega
   have HRd := Lib.hid (HR4.out.same ((Keeps.refl _ _).drew))
   refine y_begin (fun _ => True) (fun w' => w'.cell? ⟨rb, 0, none⟩ = some (.slice a m cap) ∧ w'.cell? ⟨rb, 1, none⟩ = some (.int .i64 (p2 : Int))) 12 (by kernel_rfl) ?_
   have hS : (fun _ : World => True) w4.drew := trivial
   have hT : (fun w' : World => w'.cell? ⟨rb, 0, none⟩ = some (.slice a m cap) ∧ w'.cell? ⟨rb, 1, none⟩ = some (.int .i64 (p2 : Int))) w4.drew := ⟨c0, c1⟩
   refine y_take0 (i := 0) (v := ?_) rfl (by kernel_rfl) (by kernel_rfl) (by kernel_rfl) (by decide) (fun _ _ _ h => h) (Or.inl ⟨by kernel_rfl, ?_⟩) ⟨hS, fun _ => hT⟩ ?_
   rotate_left
   ·intro wz _; go_simp; try with_reducible rfl
   refine y_take0 (i := 1) (v := ?_) rfl (by kernel_rfl) (by kernel_rfl) (by kernel_rfl) (by decide) (fun _ _ _ h => h) (Or.inl ⟨by kernel_rfl, ?_⟩) ⟨hS, fun _ => hT⟩ ?_
   rotate_left
   ·intro wz _; go_simp; try with_reducible rfl
   refine y_take0 (i := 2) (v := ?_) rfl (by kernel_rfl) (by kernel_rfl) (by kernel_rfl) (by decide) (fun _ _ _ h => h) (Or.inl ⟨by kernel_rfl, ?_⟩) ⟨hS, fun _ => hT⟩ ?_
   rotate_left
   ·intro wz _; go_simp; try with_reducible rfl
   refine y_take0 (i := 3) (v := ?_) rfl (by kernel_rfl) (by kernel_rfl) (by kernel_rfl) (by decide) (fun _ _ _ h => h) (Or.inl ⟨by kernel_rfl, ?_⟩) ⟨hS, fun _ => hT⟩ ?_
   rotate_left
   ·intro wz _; go_simp; try with_reducible rfl
   refine y_takeS (i := 4) (v := ?_) rfl (by kernel_rfl) (by kernel_rfl) (by kernel_rfl) (by decide) [5, 10, 11, 12] (by kernel_rfl) (by kernel_rfl) (by kernel_rfl) (fun _ _ _ h => h) (Or.inl ⟨by kernel_rfl, ?_⟩) ⟨hS, fun _ => hT⟩ ?_
   rotate_left
   ·intro wz ⟨_, _⟩; go_simp; try with_reducible rfl
   refine y_take0 (i := 5) (v := ?_) rfl (by kernel_rfl) (by kernel_rfl) (by kernel_rfl) (by decide) (fun _ _ _ h => h) (Or.inl ⟨by kernel_rfl, ?_⟩) ⟨hS, fun _ => hT⟩ ?_
   rotate_left
   ·intro wz _; go_simp; try with_reducible rfl
   refine y_take0 (i := 6) (v := ?_) rfl (by kernel_rfl) (by kernel_rfl) (by kernel_rfl) (by decide) (fun _ _ _ h => h) (Or.inl ⟨by kernel_rfl, ?_⟩) ⟨hS, fun _ => hT⟩ ?_
   rotate_left
   ·intro wz _; go_simp; try with_reducible rfl
   refine y_take0 (i := 7) (v := ?_) rfl (by kernel_rfl) (by kernel_rfl) (by kernel_rfl) (by decide) (fun _ _ _ h => h) (Or.inl ⟨by kernel_rfl, ?_⟩) ⟨hS, fun _ => hT⟩ ?_
   rotate_left
   ·intro wz _; go_simp; try with_reducible rfl
   refine y_take0 (i := 8) (v := ?_) rfl (by kernel_rfl) (by kernel_rfl) (by kernel_rfl) (by decide) (fun _ _ _ h => h) (Or.inl ⟨by kernel_rfl, ?_⟩) ⟨hS, fun _ => hT⟩ ?_
   rotate_left
   ·intro wz _; go_simp; try with_reducible rfl
   refine y_takeS (i := 9) (v := ?_) rfl (by kernel_rfl) (by kernel_rfl) (by kernel_rfl) (by decide) [10, 11, 12] (by kernel_rfl) (by kernel_rfl) (by kernel_rfl) (fun _ _ _ h => h) (Or.inl ⟨by kernel_rfl, ?_⟩) ⟨hS, fun _ => hT⟩ ?_
   rotate_left
   ·intro wz ⟨_, _⟩; go_simp; try with_reducible rfl
   refine y_take0 (i := 10) (v := .int .i64 (L : Int)) rfl (by kernel_rfl) (by kernel_rfl) (by kernel_rfl) (by decide) (fun _ _ _ h => h) (Or.inl ⟨by kernel_rfl, ?_⟩) ⟨hS, fun _ => hT⟩ ?_
   ·intro wz _; go_simp; try rw [hL]; try rw [hwi]; try with_reducible rfl; try rfl
   refine y_take0 (i := 11) (v := .int .u64 (L : Int)) rfl (by kernel_rfl) (by kernel_rfl) (by kernel_rfl) (by decide) (fun _ _ _ h => h) (Or.inl ⟨by kernel_rfl, ?_⟩) ⟨hS, fun _ => hT⟩ ?_
   ·intro wz _; go_simp; try rw [hwu]; try with_reducible rfl; try rfl
   refine y_call 60 #[.pointer (some ⟨rb, 0, none⟩), .int .u64 (L : Int)] rfl (by kernel_rfl) (by kernel_rfl) (by kernel_rfl) (by kernel_rfl) ?_
   refine (take_yes rb a m cap xs p2 L ys2 w4.drew HRd.out (by have := HLm.out; omega)).mono ?_
   rintro e w5 ⟨hk, hr⟩
   rw [HLY.out] at hr
   obtain ⟨p9, val, rfl, ⟨a8, n8, c8, rfl, ho⟩, hr⟩ := hr
   refine ⟨_, rfl, trivial, ?_⟩
   clear hS hT c0 c1 hL hwi hwu
   have hS : (fun _ : World => True) w5 := trivial
   have hkd := (Keeps.refl (fun k => k = rb) w4).drew.trans hk
   have HK5 := Lib.hid (HK4.out.trans hkd)
   have HZ5 := Lib.hid (hkd.blk HZ4.out HNZ.out)
   have HL5 := Lib.hid (hkd.blk HL4.out HNL.out)
   have HR5 := Lib.hid hr
   have HO5 : Hid (Bo w4.heap.size w5 a8 n8 c8 ys2) := Lib.hid ho
   have HOB : Hid (fb < w4.heap.size) := Lib.hid HL4.out.lt
   have HRB : Hid (rb < w4.heap.size) := Lib.hid HR4.out.k.lt
   have HOW : Hid (w.heap.size ≤ w4.heap.size) := Lib.hid HK4.out.size
   have HOR : Hid (rs < w4.heap.size) := Lib.hid HZ4.out.lt
   clear hr ho hk hkd HRd
   clear HR4 HK4 HZ4 HL4
   have x8 : w5.cell? ⟨fb, 8, none⟩ = some (.slice none 0 0) := HL5.out.cell 8
   have x2 : w5.cell? ⟨fb, 2, none⟩ = some (.int .u64 v2) := HL5.out.cell 2
   have y8 : w5.frozen? ⟨fb, 8, none⟩ = false := HL5.out.free 8
   refine y_take1 (i := 13) (v := ?_) rfl (by kernel_rfl) (by kernel_rfl) (by kernel_rfl) (by decide) (by kernel_rfl) (fun _ _ _ h => h) (Or.inl ⟨by kernel_rfl, ?_⟩) hS ?_
   rotate_left
   ·intro wz _; go_simp; try with_reducible rfl
   refine y_skip (i := 14) (w5.setCell ⟨fb, 8, none⟩ (.slice a8 n8 c8)) rfl (by kernel_rfl) (by kernel_rfl) (by kernel_rfl) ?_ trivial ?_
   ·go_simp; try with_reducible rfl
   refine y_done (by kernel_rfl) ?_ _
   clear hS x8 x2 y8
   refine thenX_named ?_
   intro w6 hw6
   have HR6 : Hid (Re w6 rb a m cap xs p9 []) := Lib.hid (by rw [← hw6]; exact HR5.out.keep ((Keeps.refl (fun k => k = fb) w5).put 8 (.slice a8 n8 c8)) (fun h => HNL.out h.symm) (fun b hb h => by have := HLT.out b hb; have := HFB.out.2; omega))
   have HK6 : Hid (Keeps (fun k => k = rb) w w6) := Lib.hid (by rw [← hw6]; exact (HK5.out.setCell (p := ⟨fb, 8, none⟩) (fun h => absurd h (by have := HFB.out.2; dsimp only; omega)) (.slice a8 n8 c8)))
   have HZ6 : Hid (Blk w6 rs #[.int .u64 0, .int .u64 0, .int .u64 0, .bool false, .int .u64 0, .int .u64 0, .int .u64 0, .slice none 0 0, .slice none 0 0, .bool false, .bool false, .int .i64 0] 32) := Lib.hid (by rw [← hw6]; exact ((Keeps.refl (fun k => k = fb) w5).put 8 (.slice a8 n8 c8)).blk HZ5.out HFB.out.1)
   have HL6 : Hid (Blk w6 fb #[.int .u64 8, .int .u64 v1, .int .u64 v2, .bool true, .int .u64 0, .int .u64 0, .int .u64 0, .slice none 0 0, .slice a8 n8 c8, .bool false, .bool false, .int .i64 0] 32) := Lib.hid (by rw [← hw6]; exact (HL5.out.set 8 (.slice a8 n8 c8)).as rfl)
   have HO6 : Hid (Bo w4.heap.size w6 a8 n8 c8 ys2) := Lib.hid (by rw [← hw6]; exact HO5.out.keep ((Keeps.refl (fun k => k = fb) w5).put 8 (.slice a8 n8 c8)) (fun b hb h => by have h1 := (HO5.out.ge b hb).1; have h2 := HOB.out; omega))
   clear hw6
   clear HR5 HK5 HZ5 HL5 HO5
   have x8 : w6.cell? ⟨fb, 8, none⟩ = some (.slice a8 n8 c8) := HL6.out.cell 8
   have x2 : w6.cell? ⟨fb, 2, none⟩ = some (.int .u64 v2) := HL6.out.cell 2
   go_wp2_with fail
   clear x8 x2
   have HN8 : Hid (n8 = ys2.length) := Lib.hid HO6.out.1
   have hn8 : n8 ≤ 1000000 := by have h1 := HBL.out; have h2 := HN8.out; omega
   refine (end_any v2 n8 w6 (by have := HV2.out; omega) (by have := HV2.out; omega) hn8).mono ?_
   rintro e w7 ⟨he, rfl⟩
   cases hen : endB v2 n8 with
   | false =>
    have HEN : Hid (endB v2 ys2.length = false) := Lib.hid (by rw [← HN8.out]; exact hen)
    rw [hen, if_neg (by decide)] at he
    subst he
    clear hen
    have HD : Hid (strD true true false ys = none) := Lib.hid (by unfold strD; simp only [pb, HQ1.out, HQ2.out, HEN.out, Bool.false_eq_true, if_false, if_true, ite_true, ite_false])
    go_wp2_with fail
    refine ⟨rfl, ?_⟩
    rw [HD.out]
    exact ReP.panic HK6.out
   | true =>
    have HEN : Hid (endB v2 ys2.length = true) := Lib.hid (by rw [← HN8.out]; exact hen)
    rw [hen, if_pos rfl] at he
    subst he
    clear hen
    have HD : Hid (strD true true false ys = some (⟨8, v1, v2, true, 0, 0, 0, [], ys2, false, false, 0⟩, [])) := Lib.hid (by unfold strD; simp only [pb, HQ1.out, HQ2.out, HEN.out, Bool.false_eq_true, if_false, if_true, ite_true, ite_false])
    obtain ⟨x0, x1, x2, x3, x4, x5, x6, x7, x8, x9, x10, x11⟩ := q12_cells HL6.out
    obtain ⟨t0, t1, t2, t3, t4, t5, t6, t7, t8, t9, t10, t11⟩ := q12_cells HZ6.out
    obtain ⟨z0, z1, z2, z3, z4, z5, z6, z7, z8, z9, z10, z11⟩ := q12_free HZ6.out
    go_wp2_with fail
    refine bodyPost_ret (v := ?_) ?_ (by kernel_rfl) ?_
    rotate_left
    ·exact rstream_results _ _ rs (by kernel_rfl) (qs_blk HZ6.out _ _ _ _ _ _ _ _ _ _ _ _)
    refine ⟨qs_keep HK6.out (fun h => absurd h (by have := HRS.out; omega)) _ _ _ _ _ _ _ _ _ _ _ _, ?_⟩
    rw [HD.out]
    refine ⟨p9, _, rfl, ⟨_, ?_, rfl, Qn.bytes _ _ _ _ _ _ _ _ _ _ ⟨by omega, by omega⟩ HU1.out HU2.out inU_0 inU_0 _ _ _ _ ((HO6.out.keep (qs_keep (S := fun k => k = rs) (Keeps.refl _ _) (fun _ => rfl) _ _ _ _ _ _ _ _ _ _ _ _) (fun b hb h => by have h1 := (HO6.out.ge b hb).1; have h2 := HOR.out; omega)).mono HOW.out)⟩, HR6.out.keep (qs_keep (S := fun k => k = rs) (Keeps.refl _ _) (fun _ => rfl) _ _ _ _ _ _ _ _ _ _ _ _) (fun h => HNZ.out h.symm) (fun b hb h => by have h1 := HLT.out b hb; have h2 := HRS.out; omega)⟩
    rfl

set_option maxRecDepth 100000 in
set_option maxHeartbeats 3200000 in
theorem rstream_14 (rb : Nat) (a : Option Addr) (m cap : Nat) (xs : List UInt8) (p : Nat) (ys : List UInt8) (w : World) (hr : Re w rb a m cap xs p ys) (hlt : ∀ b, a.map (·.block) = some b → b < w.heap.size) :
  Calls Try.prog 52 #[.pointer (some ⟨rb, 0, none⟩), .int .u64 14] w (ReP rb a m cap xs (vFrame w.heap.size) (strD false true true ys) w) := by
 have HLT := Lib.hid hlt
 have HR := Lib.hid hr
 have hlm : m ≤ 1000000 := hr.small
 have hrb := hr.k.lt
 have b1 : bits .and .u64 14 1 = 0 := by decide +kernel
 have b4 : bits .and .u64 14 4 = 4 := by decide +kernel
 have b2 : bits .and .u64 14 2 = 2 := by decide +kernel
 clear hr hlt
 go_enter Try.func52, Try.ntmps52
 go_wp2_with fail
 refine calls_named ?_
 intro w0 hw0
 have HR0 : Hid (Re w0 rb a m cap xs p ys) := Lib.hid (by rw [← hw0]; exact HR.out.same ((Keeps.refl _ _).alloc _))
 have HK0 : Hid (Keeps (fun k => k = rb) w w0) := Lib.hid (by rw [← hw0]; exact (Keeps.refl _ _).alloc _)
 have HZ0 : Hid (Blk w0 w.heap.size #[.int .u64 0, .int .u64 0, .int .u64 0, .bool false, .int .u64 0, .int .u64 0, .int .u64 0, .slice none 0 0, .slice none 0 0, .bool false, .bool false, .int .i64 0] 32) := Lib.hid (by rw [← hw0]; exact Blk.new _ _ _)
 obtain ⟨rs, hrs⟩ : ∃ rs, w.heap.size = rs := ⟨_, rfl⟩
 have HRS : Hid (w.heap.size ≤ rs) := Lib.hid (by omega)
 have HNZ : Hid (¬ rs = rb) := Lib.hid (by omega)
 rw [hrs] at HZ0 ⊢
 clear hw0 hrb HR hrs
 refine (num_any rb a m cap xs p ys w0 HR0.out).mono ?_
 rintro e w1 ⟨hk, hr⟩
 have HK1 := Lib.hid (HK0.out.trans hk)
 have HZ1 := Lib.hid (hk.blk HZ0.out HNZ.out)
 have HSZ1 : Hid (w0.heap.size ≤ w1.heap.size) := Lib.hid hk.size
 clear hk
 cases hq1 : pn ys with
 | none =>
  rw [hq1] at hr
  have hr' : e = .panicked [{ v := stopV, recovered := false }] := hr
  subst hr'
  have HQ1 := Lib.hid hq1
  clear hr hq1
  have HD : Hid (strD false true true ys = none) := Lib.hid (by unfold strD; simp only [pb, HQ1.out, Bool.false_eq_true, if_false, if_true, ite_true, ite_false])
  go_wp2_with fail
  refine ⟨rfl, ?_⟩
  rw [HD.out]
  exact ReP.panic HK1.out
 | some x =>
  obtain ⟨v1, ys1⟩ := x
  rw [hq1] at hr
  obtain ⟨p1, val, rfl, rfl, hr⟩ := hr
  have hbd := pn_bd hq1
  have HU1 : Hid (inU v1) := Lib.hid ⟨hbd.1, by omega⟩
  have HV1 : Hid (0 ≤ v1 ∧ v1 ≤ 4611686018427387903) := Lib.hid ⟨hbd.1, hbd.2.1⟩
  have HQ1 := Lib.hid hq1
  have HR1 := Lib.hid hr
  clear hr hq1 hbd
  clear HR0 HK0 HZ0
  go_wp2_with fail
  refine calls_named ?_
  intro w2 hw2
  have HR2 : Hid (Re w2 rb a m cap xs p1 ys1) := Lib.hid (by rw [← hw2]; exact HR1.out.same ((Keeps.refl _ _).alloc _))
  have HK2 : Hid (Keeps (fun k => k = rb) w w2) := Lib.hid (by rw [← hw2]; exact HK1.out.alloc _)
  have HZ2 : Hid (Blk w2 rs #[.int .u64 0, .int .u64 0, .int .u64 0, .bool false, .int .u64 0, .int .u64 0, .int .u64 0, .slice none 0 0, .slice none 0 0, .bool false, .bool false, .int .i64 0] 32) := Lib.hid (by rw [← hw2]; exact HZ1.out.alloc _)
  have HL2 : Hid (Blk w2 w1.heap.size #[.int .u64 8, .int .u64 v1, .int .u64 0, .bool false, .int .u64 0, .int .u64 0, .int .u64 0, .slice none 0 0, .slice none 0 0, .bool false, .bool false, .int .i64 0] 32) := Lib.hid (by rw [← hw2]; exact Blk.new _ _ _)
  have hfb0 : rs < w1.heap.size := HZ1.out.lt
  have hfb1 : w.heap.size ≤ w1.heap.size := HK1.out.size
  have hfb2 : rb < w1.heap.size := HR1.out.k.lt
  have HFL2 : Hid (w1.heap.size < w2.heap.size) := Lib.hid HL2.out.lt
  clear hw2 HR1 HK1 HZ1
  generalize w1.heap.size = fb at *
  have HNL : Hid (¬ fb = rb) := Lib.hid (by omega)
  have HFB : Hid (rs ≠ fb ∧ w.heap.size ≤ fb) := Lib.hid ⟨Nat.ne_of_lt hfb0, hfb1⟩
  clear hfb0 hfb1 hfb2
  refine (num_any rb a m cap xs p1 ys1 w2 HR2.out).mono ?_
  rintro e w3 ⟨hk, hr⟩
  have HK3 := Lib.hid (HK2.out.trans hk)
  have HZ3 := Lib.hid (hk.blk HZ2.out HNZ.out)
  have HL3 := Lib.hid (hk.blk HL2.out HNL.out)
  have HSZ3 : Hid (w2.heap.size ≤ w3.heap.size) := Lib.hid hk.size
  clear hk
  cases hq2 : pn ys1 with
  | none =>
   rw [hq2] at hr
   have hr' : e = .panicked [{ v := stopV, recovered := false }] := hr
   subst hr'
   have HQ2 := Lib.hid hq2
   clear hr hq2
   have HD : Hid (strD false true true ys = none) := Lib.hid (by unfold strD; simp only [pb, HQ1.out, HQ2.out, Bool.false_eq_true, if_false, if_true, ite_true, ite_false])
   go_wp2_with fail
   refine ⟨rfl, ?_⟩
   rw [HD.out]
   exact ReP.panic HK3.out
  | some x =>
   obtain ⟨v2, ys2⟩ := x
   rw [hq2] at hr
   obtain ⟨p2, val, rfl, rfl, hr⟩ := hr
   have hbd := pn_bd hq2
   have HU2 : Hid (inU v2) := Lib.hid ⟨hbd.1, by omega⟩
   have HV2 : Hid (0 ≤ v2 ∧ v2 ≤ 4611686018427387903) := Lib.hid ⟨hbd.1, hbd.2.1⟩
   have HQ2 := Lib.hid hq2
   have HR3 := Lib.hid hr
   clear hr hq2 hbd
   clear HR2 HK2 HZ2 HL2
   have x2 : w3.cell? ⟨fb, 2, none⟩ = some (.int .u64 0) := HL3.out.cell 2
   have y2 : w3.frozen? ⟨fb, 2, none⟩ = false := HL3.out.free 2
   go_wp2_with fail
   clear x2 y2
   refine calls_named ?_
   intro w4 hw4
   have HR4 : Hid (Re w4 rb a m cap xs p2 ys2) := Lib.hid (by rw [← hw4]; exact HR3.out.keep ((Keeps.refl (fun k => k = fb) w3).put 2 (.int .u64 v2)) (fun h => HNL.out h.symm) (fun b hb h => by have := HLT.out b hb; have := HFB.out.2; omega))
   have HK4 : Hid (Keeps (fun k => k = rb) w w4) := Lib.hid (by rw [← hw4]; exact (HK3.out.setCell (p := ⟨fb, 2, none⟩) (fun h => absurd h (by have := HFB.out.2; dsimp only; omega)) (.int .u64 v2)))
   have HZ4 : Hid (Blk w4 rs #[.int .u64 0, .int .u64 0, .int .u64 0, .bool false, .int .u64 0, .int .u64 0, .int .u64 0, .slice none 0 0, .slice none 0 0, .bool false, .bool false, .int .i64 0] 32) := Lib.hid (by rw [← hw4]; exact ((Keeps.refl (fun k => k = fb) w3).put 2 (.int .u64 v2)).blk HZ3.out HFB.out.1)
   have HL4 : Hid (Blk w4 fb #[.int .u64 8, .int .u64 v1, .int .u64 v2, .bool false, .int .u64 0, .int .u64 0, .int .u64 0, .slice none 0 0, .slice none 0 0, .bool false, .bool false, .int .i64 0] 32) := Lib.hid (by rw [← hw4]; exact (HL3.out.set 2 (.int .u64 v2)).as rfl)
   clear hw4
   clear HR3 HK3 HZ3 HL3
   refine (rtext_any rb a m cap xs p2 ys2 w4 HR4.out).mono ?_
   rintro e w5 ⟨hk, hr⟩
   have HK5 := Lib.hid (HK4.out.trans hk)
   have HZ5 := Lib.hid (hk.blk HZ4.out HNZ.out)
   have HL5 := Lib.hid (hk.blk HL4.out HNL.out)
   have HSZ5 : Hid (w4.heap.size ≤ w5.heap.size) := Lib.hid hk.size
   clear hk
   cases hq3 : ptx ys2 with
   | none =>
    rw [hq3] at hr
    have hr' : e = .panicked [{ v := stopV, recovered := false }] := hr
    subst hr'
    have HQ3 := Lib.hid hq3
    clear hr hq3
    have HD : Hid (strD false true true ys = none) := Lib.hid (by unfold strD; simp only [pb, HQ1.out, HQ2.out, HQ3.out, Bool.false_eq_true, if_false, if_true, ite_true, ite_false])
    go_wp2_with fail
    refine ⟨rfl, ?_⟩
    rw [HD.out]
    exact ReP.panic HK5.out
   | some x =>
    obtain ⟨bs, ys3⟩ := x
    rw [hq3] at hr
    obtain ⟨p3, val, rfl, ⟨a8, n8, c8, rfl, ho⟩, hr⟩ := hr
    have HQ3 := Lib.hid hq3
    have HR5 := Lib.hid hr
    have HO5 : Hid (Bo w4.heap.size w5 a8 n8 c8 bs) := Lib.hid ho
    have HOB : Hid (fb < w4.heap.size) := Lib.hid HL4.out.lt
    have HRB : Hid (rb < w4.heap.size) := Lib.hid HR4.out.k.lt
    have HOW : Hid (w.heap.size ≤ w4.heap.size) := Lib.hid HK4.out.size
    have HOR : Hid (rs < w4.heap.size) := Lib.hid HZ4.out.lt
    have HBL : Hid (bs.length ≤ 1000000) := Lib.hid (by have h1 := ptx_bd hq3; have h2 := HR4.out.len; omega)
    clear hr hq3 ho
    clear HR4 HK4 HZ4 HL4
    have x8 : w5.cell? ⟨fb, 8, none⟩ = some (.slice none 0 0) := HL5.out.cell 8
    have x2 : w5.cell? ⟨fb, 2, none⟩ = some (.int .u64 v2) := HL5.out.cell 2
    have y8 : w5.frozen? ⟨fb, 8, none⟩ = false := HL5.out.free 8
    go_upto_region 7 with fail
    clear x8 x2 y8
    refine wp_named ?_
    intro w6 hw6
    have HR6 : Hid (Re w6 rb a m cap xs p3 ys3) := Lib.hid (by rw [← hw6]; exact HR5.out.keep ((Keeps.refl (fun k => k = fb) w5).put 8 (.slice a8 n8 c8)) (fun h => HNL.out h.symm) (fun b hb h => by have := HLT.out b hb; have := HFB.out.2; omega))
    have HK6 : Hid (Keeps (fun k => k = rb) w w6) := Lib.hid (by rw [← hw6]; exact (HK5.out.setCell (p := ⟨fb, 8, none⟩) (fun h => absurd h (by have := HFB.out.2; dsimp only; omega)) (.slice a8 n8 c8)))
    have HZ6 : Hid (Blk w6 rs #[.int .u64 0, .int .u64 0, .int .u64 0, .bool false, .int .u64 0, .int .u64 0, .int .u64 0, .slice none 0 0, .slice none 0 0, .bool false, .bool false, .int .i64 0] 32) := Lib.hid (by rw [← hw6]; exact ((Keeps.refl (fun k => k = fb) w5).put 8 (.slice a8 n8 c8)).blk HZ5.out HFB.out.1)
    have HL6 : Hid (Blk w6 fb #[.int .u64 8, .int .u64 v1, .int .u64 v2, .bool false, .int .u64 0, .int .u64 0, .int .u64 0, .slice none 0 0, .slice a8 n8 c8, .bool false, .bool false, .int .i64 0] 32) := Lib.hid (by rw [← hw6]; exact (HL5.out.set 8 (.slice a8 n8 c8)).as rfl)
    have HO6 : Hid (Bo w4.heap.size w6 a8 n8 c8 bs) := Lib.hid (by rw [← hw6]; exact HO5.out.keep ((Keeps.refl (fun k => k = fb) w5).put 8 (.slice a8 n8 c8)) (fun b hb h => by have h1 := (HO5.out.ge b hb).1; have h2 := HOB.out; omega))
    clear hw6
    clear HR5 HK5 HZ5 HL5 HO5
    have x8 : w6.cell? ⟨fb, 8, none⟩ = some (.slice a8 n8 c8) := HL6.out.cell 8
    have x2 : w6.cell? ⟨fb, 2, none⟩ = some (.int .u64 v2) := HL6.out.cell 2
    go_wp2_with fail
    clear x8 x2
    have HN8 : Hid (n8 = bs.length) := Lib.hid HO6.out.1
    have hn8 : n8 ≤ 1000000 := by have h1 := HBL.out; have h2 := HN8.out; omega
    refine (end_any v2 n8 w6 (by have := HV2.out; omega) (by have := HV2.out; omega) hn8).mono ?_
    rintro e w7 ⟨he, rfl⟩
    cases hen : endB v2 n8 with
    | false =>
     have HEN : Hid (endB v2 bs.length = false) := Lib.hid (by rw [← HN8.out]; exact hen)
     rw [hen, if_neg (by decide)] at he
     subst he
     clear hen
     have HD : Hid (strD false true true ys = none) := Lib.hid (by unfold strD; simp only [pb, HQ1.out, HQ2.out, HQ3.out, HEN.out, Bool.false_eq_true, if_false, if_true, ite_true, ite_false])
     go_wp2_with fail
     refine ⟨rfl, ?_⟩
     rw [HD.out]
     exact ReP.panic HK6.out
    | true =>
     have HEN : Hid (endB v2 bs.length = true) := Lib.hid (by rw [← HN8.out]; exact hen)
     rw [hen, if_pos rfl] at he
     subst he
     clear hen
     have HD : Hid (strD false true true ys = some (⟨8, v1, v2, false, 0, 0, 0, [], bs, false, false, 0⟩, ys3)) := Lib.hid (by unfold strD; simp only [pb, HQ1.out, HQ2.out, HQ3.out, HEN.out, Bool.false_eq_true, if_false, if_true, ite_true, ite_false])
     obtain ⟨x0, x1, x2, x3, x4, x5, x6, x7, x8, x9, x10, x11⟩ := q12_cells HL6.out
     obtain ⟨t0, t1, t2, t3, t4, t5, t6, t7, t8, t9, t10, t11⟩ := q12_cells HZ6.out
     obtain ⟨z0, z1, z2, z3, z4, z5, z6, z7, z8, z9, z10, z11⟩ := q12_free HZ6.out
     go_wp2_with fail
     refine bodyPost_ret (v := ?_) ?_ (by kernel_rfl) ?_
     rotate_left
     ·exact rstream_results _ _ rs (by kernel_rfl) (qs_blk HZ6.out _ _ _ _ _ _ _ _ _ _ _ _)
     refine ⟨qs_keep HK6.out (fun h => absurd h (by have := HRS.out; omega)) _ _ _ _ _ _ _ _ _ _ _ _, ?_⟩
     rw [HD.out]
     refine ⟨p3, _, rfl, ⟨_, ?_, rfl, Qn.bytes _ _ _ _ _ _ _ _ _ _ ⟨by omega, by omega⟩ HU1.out HU2.out inU_0 inU_0 _ _ _ _ ((HO6.out.keep (qs_keep (S := fun k => k = rs) (Keeps.refl _ _) (fun _ => rfl) _ _ _ _ _ _ _ _ _ _ _ _) (fun b hb h => by have h1 := (HO6.out.ge b hb).1; have h2 := HOR.out; omega)).mono HOW.out)⟩, HR6.out.keep (qs_keep (S := fun k => k = rs) (Keeps.refl _ _) (fun _ => rfl) _ _ _ _ _ _ _ _ _ _ _ _) (fun h => HNZ.out h.symm) (fun b hb h => by have h1 := HLT.out b hb; have h2 := HRS.out; omega)⟩
     rfl

set_option maxRecDepth 100000 in
set_option maxHeartbeats 3200000 in
theorem rstream_15 (rb : Nat) (a : Option Addr) (m cap : Nat) (xs : List UInt8) (p : Nat) (ys : List UInt8) (w : World) (hr : Re w rb a m cap xs p ys) (hlt : ∀ b, a.map (·.block) = some b → b < w.heap.size) :
  Calls Try.prog 52 #[.pointer (some ⟨rb, 0, none⟩), .int .u64 15] w (ReP rb a m cap xs (vFrame w.heap.size) (strD true true true ys) w) := by
 have HLT := Lib.hid hlt
 have HR := Lib.hid hr
 have hlm : m ≤ 1000000 := hr.small
 have hrb := hr.k.lt
 have b1 : bits .and .u64 15 1 = 1 := by decide +kernel
 have b4 : bits .and .u64 15 4 = 4 := by decide +kernel
 have b2 : bits .and .u64 15 2 = 2 := by decide +kernel
 clear hr hlt
 go_enter Try.func52, Try.ntmps52
 go_wp2_with fail
 refine calls_named ?_
 intro w0 hw0
 have HR0 : Hid (Re w0 rb a m cap xs p ys) := Lib.hid (by rw [← hw0]; exact HR.out.same ((Keeps.refl _ _).alloc _))
 have HK0 : Hid (Keeps (fun k => k = rb) w w0) := Lib.hid (by rw [← hw0]; exact (Keeps.refl _ _).alloc _)
 have HZ0 : Hid (Blk w0 w.heap.size #[.int .u64 0, .int .u64 0, .int .u64 0, .bool false, .int .u64 0, .int .u64 0, .int .u64 0, .slice none 0 0, .slice none 0 0, .bool false, .bool false, .int .i64 0] 32) := Lib.hid (by rw [← hw0]; exact Blk.new _ _ _)
 obtain ⟨rs, hrs⟩ : ∃ rs, w.heap.size = rs := ⟨_, rfl⟩
 have HRS : Hid (w.heap.size ≤ rs) := Lib.hid (by omega)
 have HNZ : Hid (¬ rs = rb) := Lib.hid (by omega)
 rw [hrs] at HZ0 ⊢
 clear hw0 hrb HR hrs
 refine (num_any rb a m cap xs p ys w0 HR0.out).mono ?_
 rintro e w1 ⟨hk, hr⟩
 have HK1 := Lib.hid (HK0.out.trans hk)
 have HZ1 := Lib.hid (hk.blk HZ0.out HNZ.out)
 have HSZ1 : Hid (w0.heap.size ≤ w1.heap.size) := Lib.hid hk.size
 clear hk
 cases hq1 : pn ys with
 | none =>
  rw [hq1] at hr
  have hr' : e = .panicked [{ v := stopV, recovered := false }] := hr
  subst hr'
  have HQ1 := Lib.hid hq1
  clear hr hq1
  have HD : Hid (strD true true true ys = none) := Lib.hid (by unfold strD; simp only [pb, HQ1.out, Bool.false_eq_true, if_false, if_true, ite_true, ite_false])
  go_wp2_with fail
  refine ⟨rfl, ?_⟩
  rw [HD.out]
  exact ReP.panic HK1.out
 | some x =>
  obtain ⟨v1, ys1⟩ := x
  rw [hq1] at hr
  obtain ⟨p1, val, rfl, rfl, hr⟩ := hr
  have hbd := pn_bd hq1
  have HU1 : Hid (inU v1) := Lib.hid ⟨hbd.1, by omega⟩
  have HV1 : Hid (0 ≤ v1 ∧ v1 ≤ 4611686018427387903) := Lib.hid ⟨hbd.1, hbd.2.1⟩
  have HQ1 := Lib.hid hq1
  have HR1 := Lib.hid hr
  clear hr hq1 hbd
  clear HR0 HK0 HZ0
  go_wp2_with fail
  refine calls_named ?_
  intro w2 hw2
  have HR2 : Hid (Re w2 rb a m cap xs p1 ys1) := Lib.hid (by rw [← hw2]; exact HR1.out.same ((Keeps.refl _ _).alloc _))
  have HK2 : Hid (Keeps (fun k => k = rb) w w2) := Lib.hid (by rw [← hw2]; exact HK1.out.alloc _)
  have HZ2 : Hid (Blk w2 rs #[.int .u64 0, .int .u64 0, .int .u64 0, .bool false, .int .u64 0, .int .u64 0, .int .u64 0, .slice none 0 0, .slice none 0 0, .bool false, .bool false, .int .i64 0] 32) := Lib.hid (by rw [← hw2]; exact HZ1.out.alloc _)
  have HL2 : Hid (Blk w2 w1.heap.size #[.int .u64 8, .int .u64 v1, .int .u64 0, .bool true, .int .u64 0, .int .u64 0, .int .u64 0, .slice none 0 0, .slice none 0 0, .bool false, .bool false, .int .i64 0] 32) := Lib.hid (by rw [← hw2]; exact Blk.new _ _ _)
  have hfb0 : rs < w1.heap.size := HZ1.out.lt
  have hfb1 : w.heap.size ≤ w1.heap.size := HK1.out.size
  have hfb2 : rb < w1.heap.size := HR1.out.k.lt
  have HFL2 : Hid (w1.heap.size < w2.heap.size) := Lib.hid HL2.out.lt
  clear hw2 HR1 HK1 HZ1
  generalize w1.heap.size = fb at *
  have HNL : Hid (¬ fb = rb) := Lib.hid (by omega)
  have HFB : Hid (rs ≠ fb ∧ w.heap.size ≤ fb) := Lib.hid ⟨Nat.ne_of_lt hfb0, hfb1⟩
  clear hfb0 hfb1 hfb2
  refine (num_any rb a m cap xs p1 ys1 w2 HR2.out).mono ?_
  rintro e w3 ⟨hk, hr⟩
  have HK3 := Lib.hid (HK2.out.trans hk)
  have HZ3 := Lib.hid (hk.blk HZ2.out HNZ.out)
  have HL3 := Lib.hid (hk.blk HL2.out HNL.out)
  have HSZ3 : Hid (w2.heap.size ≤ w3.heap.size) := Lib.hid hk.size
  clear hk
  cases hq2 : pn ys1 with
  | none =>
   rw [hq2] at hr
   have hr' : e = .panicked [{ v := stopV, recovered := false }] := hr
   subst hr'
   have HQ2 := Lib.hid hq2
   clear hr hq2
   have HD : Hid (strD true true true ys = none) := Lib.hid (by unfold strD; simp only [pb, HQ1.out, HQ2.out, Bool.false_eq_true, if_false, if_true, ite_true, ite_false])
   go_wp2_with fail
   refine ⟨rfl, ?_⟩
   rw [HD.out]
   exact ReP.panic HK3.out
  | some x =>
   obtain ⟨v2, ys2⟩ := x
   rw [hq2] at hr
   obtain ⟨p2, val, rfl, rfl, hr⟩ := hr
   have hbd := pn_bd hq2
   have HU2 : Hid (inU v2) := Lib.hid ⟨hbd.1, by omega⟩
   have HV2 : Hid (0 ≤ v2 ∧ v2 ≤ 4611686018427387903) := Lib.hid ⟨hbd.1, hbd.2.1⟩
   have HQ2 := Lib.hid hq2
   have HR3 := Lib.hid hr
   clear hr hq2 hbd
   clear HR2 HK2 HZ2 HL2
   have x2 : w3.cell? ⟨fb, 2, none⟩ = some (.int .u64 0) := HL3.out.cell 2
   have y2 : w3.frozen? ⟨fb, 2, none⟩ = false := HL3.out.free 2
   go_wp2_with fail
   clear x2 y2
   refine calls_named ?_
   intro w4 hw4
   have HR4 : Hid (Re w4 rb a m cap xs p2 ys2) := Lib.hid (by rw [← hw4]; exact HR3.out.keep ((Keeps.refl (fun k => k = fb) w3).put 2 (.int .u64 v2)) (fun h => HNL.out h.symm) (fun b hb h => by have := HLT.out b hb; have := HFB.out.2; omega))
   have HK4 : Hid (Keeps (fun k => k = rb) w w4) := Lib.hid (by rw [← hw4]; exact (HK3.out.setCell (p := ⟨fb, 2, none⟩) (fun h => absurd h (by have := HFB.out.2; dsimp only; omega)) (.int .u64 v2)))
   have HZ4 : Hid (Blk w4 rs #[.int .u64 0, .int .u64 0, .int .u64 0, .bool false, .int .u64 0, .int .u64 0, .int .u64 0, .slice none 0 0, .slice none 0 0, .bool false, .bool false, .int .i64 0] 32) := Lib.hid (by rw [← hw4]; exact ((Keeps.refl (fun k => k = fb) w3).put 2 (.int .u64 v2)).blk HZ3.out HFB.out.1)
   have HL4 : Hid (Blk w4 fb #[.int .u64 8, .int .u64 v1, .int .u64 v2, .bool true, .int .u64 0, .int .u64 0, .int .u64 0, .slice none 0 0, .slice none 0 0, .bool false, .bool false, .int .i64 0] 32) := Lib.hid (by rw [← hw4]; exact (HL3.out.set 2 (.int .u64 v2)).as rfl)
   clear hw4
   clear HR3 HK3 HZ3 HL3
   refine (rtext_any rb a m cap xs p2 ys2 w4 HR4.out).mono ?_
   rintro e w5 ⟨hk, hr⟩
   have HK5 := Lib.hid (HK4.out.trans hk)
   have HZ5 := Lib.hid (hk.blk HZ4.out HNZ.out)
   have HL5 := Lib.hid (hk.blk HL4.out HNL.out)
   have HSZ5 : Hid (w4.heap.size ≤ w5.heap.size) := Lib.hid hk.size
   clear hk
   cases hq3 : ptx ys2 with
   | none =>
    rw [hq3] at hr
    have hr' : e = .panicked [{ v := stopV, recovered := false }] := hr
    subst hr'
    have HQ3 := Lib.hid hq3
    clear hr hq3
    have HD : Hid (strD true true true ys = none) := Lib.hid (by unfold strD; simp only [pb, HQ1.out, HQ2.out, HQ3.out, Bool.false_eq_true, if_false, if_true, ite_true, ite_false])
    go_wp2_with fail
    refine ⟨rfl, ?_⟩
    rw [HD.out]
    exact ReP.panic HK5.out
   | some x =>
    obtain ⟨bs, ys3⟩ := x
    rw [hq3] at hr
    obtain ⟨p3, val, rfl, ⟨a8, n8, c8, rfl, ho⟩, hr⟩ := hr
    have HQ3 := Lib.hid hq3
    have HR5 := Lib.hid hr
    have HO5 : Hid (Bo w4.heap.size w5 a8 n8 c8 bs) := Lib.hid ho
    have HOB : Hid (fb < w4.heap.size) := Lib.hid HL4.out.lt
    have HRB : Hid (rb < w4.heap.size) := Lib.hid HR4.out.k.lt
    have HOW : Hid (w.heap.size ≤ w4.heap.size) := Lib.hid HK4.out.size
    have HOR : Hid (rs < w4.heap.size) := Lib.hid HZ4.out.lt
    have HBL : Hid (bs.length ≤ 1000000) := Lib.hid (by have h1 := ptx_bd hq3; have h2 := HR4.out.len; omega)
    clear hr hq3 ho
    clear HR4 HK4 HZ4 HL4
    have x8 : w5.cell? ⟨fb, 8, none⟩ = some (.slice none 0 0) := HL5.out.cell 8
    have x2 : w5.cell? ⟨fb, 2, none⟩ = some (.int .u64 v2) := HL5.out.cell 2
    have y8 : w5.frozen? ⟨fb, 8, none⟩ = false := HL5.out.free 8
    go_upto_region 7 with fail
    clear x8 x2 y8
    refine wp_named ?_
    intro w6 hw6
    have HR6 : Hid (Re w6 rb a m cap xs p3 ys3) := Lib.hid (by rw [← hw6]; exact HR5.out.keep ((Keeps.refl (fun k => k = fb) w5).put 8 (.slice a8 n8 c8)) (fun h => HNL.out h.symm) (fun b hb h => by have := HLT.out b hb; have := HFB.out.2; omega))
    have HK6 : Hid (Keeps (fun k => k = rb) w w6) := Lib.hid (by rw [← hw6]; exact (HK5.out.setCell (p := ⟨fb, 8, none⟩) (fun h => absurd h (by have := HFB.out.2; dsimp only; omega)) (.slice a8 n8 c8)))
    have HZ6 : Hid (Blk w6 rs #[.int .u64 0, .int .u64 0, .int .u64 0, .bool false, .int .u64 0, .int .u64 0, .int .u64 0, .slice none 0 0, .slice none 0 0, .bool false, .bool false, .int .i64 0] 32) := Lib.hid (by rw [← hw6]; exact ((Keeps.refl (fun k => k = fb) w5).put 8 (.slice a8 n8 c8)).blk HZ5.out HFB.out.1)
    have HL6 : Hid (Blk w6 fb #[.int .u64 8, .int .u64 v1, .int .u64 v2, .bool true, .int .u64 0, .int .u64 0, .int .u64 0, .slice none 0 0, .slice a8 n8 c8, .bool false, .bool false, .int .i64 0] 32) := Lib.hid (by rw [← hw6]; exact (HL5.out.set 8 (.slice a8 n8 c8)).as rfl)
    have HO6 : Hid (Bo w4.heap.size w6 a8 n8 c8 bs) := Lib.hid (by rw [← hw6]; exact HO5.out.keep ((Keeps.refl (fun k => k = fb) w5).put 8 (.slice a8 n8 c8)) (fun b hb h => by have h1 := (HO5.out.ge b hb).1; have h2 := HOB.out; omega))
    clear hw6
    clear HR5 HK5 HZ5 HL5 HO5
    have x8 : w6.cell? ⟨fb, 8, none⟩ = some (.slice a8 n8 c8) := HL6.out.cell 8
    have x2 : w6.cell? ⟨fb, 2, none⟩ = some (.int .u64 v2) := HL6.out.cell 2
    go_wp2_with fail
    clear x8 x2
    have HN8 : Hid (n8 = bs.length) := Lib.hid HO6.out.1
    have hn8 : n8 ≤ 1000000 := by have h1 := HBL.out; have h2 := HN8.out; omega
    refine (end_any v2 n8 w6 (by have := HV2.out; omega) (by have := HV2.out; omega) hn8).mono ?_
    rintro e w7 ⟨he, rfl⟩
    cases hen : endB v2 n8 with
    | false =>
     have HEN : Hid (endB v2 bs.length = false) := Lib.hid (by rw [← HN8.out]; exact hen)
     rw [hen, if_neg (by decide)] at he
     subst he
     clear hen
     have HD : Hid (strD true true true ys = none) := Lib.hid (by unfold strD; simp only [pb, HQ1.out, HQ2.out, HQ3.out, HEN.out, Bool.false_eq_true, if_false, if_true, ite_true, ite_false])
     go_wp2_with fail
     refine ⟨rfl, ?_⟩
     rw [HD.out]
     exact ReP.panic HK6.out
    | true =>
     have HEN : Hid (endB v2 bs.length = true) := Lib.hid (by rw [← HN8.out]; exact hen)
     rw [hen, if_pos rfl] at he
     subst he
     clear hen
     have HD : Hid (strD true true true ys = some (⟨8, v1, v2, true, 0, 0, 0, [], bs, false, false, 0⟩, ys3)) := Lib.hid (by unfold strD; simp only [pb, HQ1.out, HQ2.out, HQ3.out, HEN.out, Bool.false_eq_true, if_false, if_true, ite_true, ite_false])
     obtain ⟨x0, x1, x2, x3, x4, x5, x6, x7, x8, x9, x10, x11⟩ := q12_cells HL6.out
     obtain ⟨t0, t1, t2, t3, t4, t5, t6, t7, t8, t9, t10, t11⟩ := q12_cells HZ6.out
     obtain ⟨z0, z1, z2, z3, z4, z5, z6, z7, z8, z9, z10, z11⟩ := q12_free HZ6.out
     go_wp2_with fail
     refine bodyPost_ret (v := ?_) ?_ (by kernel_rfl) ?_
     rotate_left
     ·exact rstream_results _ _ rs (by kernel_rfl) (qs_blk HZ6.out _ _ _ _ _ _ _ _ _ _ _ _)
     refine ⟨qs_keep HK6.out (fun h => absurd h (by have := HRS.out; omega)) _ _ _ _ _ _ _ _ _ _ _ _, ?_⟩
     rw [HD.out]
     refine ⟨p3, _, rfl, ⟨_, ?_, rfl, Qn.bytes _ _ _ _ _ _ _ _ _ _ ⟨by omega, by omega⟩ HU1.out HU2.out inU_0 inU_0 _ _ _ _ ((HO6.out.keep (qs_keep (S := fun k => k = rs) (Keeps.refl _ _) (fun _ => rfl) _ _ _ _ _ _ _ _ _ _ _ _) (fun b hb h => by have h1 := (HO6.out.ge b hb).1; have h2 := HOR.out; omega)).mono HOW.out)⟩, HR6.out.keep (qs_keep (S := fun k => k = rs) (Keeps.refl _ _) (fun _ => rfl) _ _ _ _ _ _ _ _ _ _ _ _) (fun h => HNZ.out h.symm) (fun b hb h => by have h1 := HLT.out b hb; have h2 := HRS.out; omega)⟩
     rfl

theorem rstream_any (rb : Nat) (a : Option Addr) (m cap : Nat) (xs : List UInt8) (p : Nat) (ys : List UInt8) (w : World) (hr : Re w rb a m cap xs p ys) (hlt : ∀ b, a.map (·.block) = some b → b < w.heap.size) (t : Int) (h8 : 8 ≤ t) (h15 : t ≤ 15) :
  Calls Try.prog 52 #[.pointer (some ⟨rb, 0, none⟩), .int .u64 t] w (ReP rb a m cap xs (vFrame w.heap.size) (decT t ys) w) := by
 rcases (by omega : t = 8 ∨ t = 9 ∨ t = 10 ∨ t = 11 ∨ t = 12 ∨ t = 13 ∨ t = 14 ∨ t = 15) with rfl | rfl | rfl | rfl | rfl | rfl | rfl | rfl
 ·exact rstream_8 rb a m cap xs p ys w hr hlt
 ·exact rstream_9 rb a m cap xs p ys w hr hlt
 ·exact rstream_10 rb a m cap xs p ys w hr hlt
 ·exact rstream_11 rb a m cap xs p ys w hr hlt
 ·exact rstream_12 rb a m cap xs p ys w hr hlt
 ·exact rstream_13 rb a m cap xs p ys w hr hlt
 ·exact rstream_14 rb a m cap xs p ys w hr hlt
 ·exact rstream_15 rb a m cap xs p ys w hr hlt

end Go.Proofs.Ytgfkgmmigbpciaa
