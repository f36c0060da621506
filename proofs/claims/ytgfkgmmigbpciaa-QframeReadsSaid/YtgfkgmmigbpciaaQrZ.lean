/- ReadFrame of the package bifoldref17: what is no frame, padding. -/
import Derived.Test.YtgfkgmmigbpciaaQrQ
namespace Go.Proofs.Ytgfkgmmigbpciaa
set_option linter.unusedSimpArgs false
set_option linter.unusedVariables false
open Go.RowKit Go.Deep

set_option maxRecDepth 100000 in
set_option maxHeartbeats 6400000 in
theorem rf_nil (a : Option Addr) (cap : Nat) (w : World) : Calls Try.prog 18 #[.slice a 0 cap] w (ReadP 0 none w) := by
 have HZ0 : Hid (Blk (w.alloc (.cells #[.int .u64 0, .int .u64 0, .int .u64 0, .bool false, .int .u64 0, .int .u64 0, .int .u64 0, .slice none 0 0, .slice none 0 0, .bool false, .bool false, .int .i64 0] 32 (0, 0))) w.heap.size #[.int .u64 0, .int .u64 0, .int .u64 0, .bool false, .int .u64 0, .int .u64 0, .int .u64 0, .slice none 0 0, .slice none 0 0, .bool false, .bool false, .int .i64 0] 32) := Lib.hid (Blk.new w _ _)
 have HK0 : Hid (Below w.heap.size w (w.alloc (.cells #[.int .u64 0, .int .u64 0, .int .u64 0, .bool false, .int .u64 0, .int .u64 0, .int .u64 0, .slice none 0 0, .slice none 0 0, .bool false, .bool false, .int .i64 0] 32 (0, 0)))) := Lib.hid ((Below.refl _ w).alloc (Nat.le_refl _) _)
 go_enter Try.func18, Try.ntmps18
 go_upto_region 2 with fail
 refine wp_named ?_
 intro w0 hw0
 rw [hw0] at HZ0 HK0
 clear hw0
 obtain ⟨t0, t1, t2, t3, t4, t5, t6, t7, t8, t9, t10, t11⟩ := q12_cells HZ0.out
 obtain ⟨z0, z1, z2, z3, z4, z5, z6, z7, z8, z9, z10, z11⟩ := q12_free HZ0.out
 go_wp2_with fail
 refine bodyPost_ret (v := ?_) ?_ (by kernel_rfl) ?_
 rotate_left
 ·exact rf_results _ _ w.heap.size (.int .i64 0) (.int .i64 30) (by kernel_rfl) (by kernel_rfl) (by kernel_rfl) (qs_blk HZ0.out _ _ _ _ _ _ _ _ _ _ _ _)
 exact ⟨Keeps.below HK0.out (qs_keep (b := w.heap.size) (S := fun k => k = w.heap.size) (Keeps.refl _ w0) (fun _ => rfl) (.int .u64 0) (.int .u64 0) (.int .u64 0) (.bool false) (.int .u64 0) (.int .u64 0) (.int .u64 0) (.slice none 0 0) (.slice none 0 0) (.bool false) (.bool false) (.int .i64 0)) HK0.out.size (fun k h => by omega), rfl⟩

set_option maxRecDepth 100000 in
set_option maxHeartbeats 6400000 in
theorem rf_bad (a : Option Addr) (m cap : Nat) (xs : List UInt8) (w : World) (hb : By w a m cap xs) (hm : m ≤ 1000000) (hlt : ∀ b, a.map (·.block) = some b → b < w.heap.size) (hc : xs.headD 0 ≠ 0) (hbad : ∀ t y, pn xs = some (t, y) → ¬ rvL xs = varLenV t) :
  Calls Try.prog 18 #[.slice a m cap] w (ReadP m none w) := by
 have hxm := hb.1
 have hm0 : 0 < m := by
  cases xs with
  | nil => exact absurd rfl hc
  | cons c l => simp at hxm; omega
 obtain ⟨ba, off, rfl, _, hcell⟩ := hb.get hm0
 have e0 := hcell 0 (by omega)
 have hx0 : xs.headD 0 = xs[0]'(by omega) := by cases xs with
  | nil => simp at hxm; omega
  | cons c l => rfl
 rw [← hx0] at e0
 obtain ⟨C, hC⟩ : ∃ C : Int, ((xs.headD 0).toNat : Int) = C := ⟨_, rfl⟩
 have hCn : (C == 0) = false := by
  have h0 : (xs.headD 0).toNat ≠ 0 := fun h => hc (UInt8.toNat_inj.1 h)
  simp; omega
 rw [hC] at e0
 simp only [Nat.add_zero] at e0
 have hm1 : ((m : Int) == 0) = false := by simp; omega
 have hmI : (0 : Int) < (m : Int) := by omega
 have HB := Lib.hid hb
 have HLT := Lib.hid hlt
 have HM := Lib.hid hm
 have HBAD := Lib.hid hbad
 have HXM : Hid (xs.length = m) := Lib.hid hxm.symm
 clear hb hlt hc hcell hx0 hC hxm hbad
 go_enter Try.func18, Try.ntmps18
 go_wp2_with fail
 refine calls_named ?_
 intro w0 hw0
 have HZ0 : Hid (Blk w0 w.heap.size #[.int .u64 0, .int .u64 0, .int .u64 0, .bool false, .int .u64 0, .int .u64 0, .int .u64 0, .slice none 0 0, .slice none 0 0, .bool false, .bool false, .int .i64 0] 32) := Lib.hid (by rw [← hw0]; exact (Blk.new _ _ _).alloc _)
 have HR0 : Hid (Rq w0 (w.heap.size + 1) (some ⟨ba, off, none⟩) m cap xs 0 xs true) := Lib.hid ⟨HB.out.keep (by rw [← hw0]; exact ((Keeps.refl (fun _ => False) _).alloc _).alloc _) (fun _ _ h => h), by
   rw [← hw0]
   have h := Blk.new (w.alloc (.cells #[.int .u64 0, .int .u64 0, .int .u64 0, .bool false, .int .u64 0, .int .u64 0, .int .u64 0, .slice none 0 0, .slice none 0 0, .bool false, .bool false, .int .i64 0] 32 (0, 0))) #[.slice (some ⟨ba, off, none⟩) m cap, .int .i64 0, .bool true] 73
   rw [World.size_alloc] at h
   exact h, Nat.zero_le _, rfl, fun b hb => by have := HLT.out b hb; omega, HM.out⟩
 have HK0 : Hid (Below w.heap.size w w0) := Lib.hid (by rw [← hw0]; exact ((Below.refl _ w).alloc (Nat.le_refl _) _).alloc (by simp) _)
 clear hw0 e0 hCn hm1 hmI hm0
 obtain ⟨rs, hrs⟩ : ∃ rs, w.heap.size = rs := ⟨_, rfl⟩
 obtain ⟨rb, hrb⟩ : ∃ rb, w.heap.size + 1 = rb := ⟨_, rfl⟩
 have HRR : Hid (rs = w.heap.size ∧ rb = w.heap.size + 1) := Lib.hid ⟨hrs.symm, hrb.symm⟩
 rw [hrb] at HR0 ⊢
 rw [hrs] at HZ0 ⊢
 clear hrs hrb
 refine (rnum_q rb _ m cap xs 0 xs true w0 HR0.out).mono ?_
 rintro e w1 ⟨hk, v, p1, y1, ok1, rfl, hr, hs⟩
 have HR1 := Lib.hid hr
 have HZ1 := Lib.hid (hk.blk HZ0.out (by have := HRR.out; omega))
 have HK1 : Hid (Below w.heap.size w w1) := Lib.hid (Keeps.below HK0.out hk HK0.out.size (fun k h => by have := HRR.out; omega))
 have HV0 : Hid (0 ≤ v ∧ v ≤ 4611686018427387903) := Lib.hid ⟨hs.bd.1, hs.bd.2.1⟩
 obtain ⟨V, hV⟩ : ∃ V, varLenV v = V := ⟨_, rfl⟩
 have HVV := Lib.hid hV
 have hpV : ((p1 : Int) == V) = false := by
  have hx := HXM.out
  have h2 := hr.len
  have h3 := hr.le
  rw [← hV]
  rcases hs with ⟨_, g2, _⟩ | ⟨_, _, rfl, rfl, _⟩ | ⟨g, _⟩
  ·obtain ⟨_, _, _, k, g3, g4, g5, _⟩ := pn_bd g2
   have g6 := HBAD.out _ _ g2
   rw [g3] at g6
   rw [g5, List.length_drop] at h2
   have h4 : (p1 : Int) ≠ varLenV v := by
    have : p1 = k := by omega
    rw [this]; exact g6
   simpa using h4
  ·have h4 : p1 = 0 := by omega
   rw [h4]
   rfl
  ·cases g
 clear hk hr hs HR0 HZ0 HK0 hV
 go_upto_region 11 with fail
 refine wp_named ?_
 intro w2 hw2
 have HR2 := Lib.hid (HR1.out.same (w' := w2) (by rw [← hw2]; exact (Keeps.refl _ _).alloc _))
 have HZ2 : Hid (Blk w2 rs #[.int .u64 0, .int .u64 0, .int .u64 0, .bool false, .int .u64 0, .int .u64 0, .int .u64 0, .slice none 0 0, .slice none 0 0, .bool false, .bool false, .int .i64 0] 32) := Lib.hid (by rw [← hw2]; exact HZ1.out.alloc _)
 have HK2 : Hid (Below w.heap.size w w2) := Lib.hid (by rw [← hw2]; exact HK1.out.alloc HK1.out.size _)
 clear hw2 HR1 HZ1 HK1
 have c1 : w2.cell? ⟨rb, 1, none⟩ = some (.int .i64 (p1 : Int)) := HR2.out.k.cells.1.2.1
 refine wp_region_held (S := fun w' => w'.cell? ⟨rb, 1, none⟩ = some (.int .i64 (p1 : Int)) ∧ w'.cell? ⟨rb, 1, none⟩ = some (.int .i64 (p1 : Int))) (by kernel_rfl) ?_
 change wpAnyH _ _ _ _ _ _ _ _ (World.drew _)
 have hS : (fun w' : World => w'.cell? ⟨rb, 1, none⟩ = some (.int .i64 (p1 : Int)) ∧ w'.cell? ⟨rb, 1, none⟩ = some (.int .i64 (p1 : Int))) w2.drew := ⟨c1, c1⟩
 refine tH (i := 0) (v := ?_) rfl ?_ hS ?_
 rotate_left
 ·intro wz ⟨_, _⟩; go_simp; try with_reducible rfl
 refine tH (i := 1) (v := ?_) rfl ?_ hS ?_
 rotate_left
 ·intro wz ⟨_, _⟩; go_simp; try with_reducible rfl
 refine tH (i := 2) (v := ?_) rfl ?_ hS ?_
 rotate_left
 ·intro wz ⟨_, _⟩; go_simp; try with_reducible rfl
 refine tH (i := 3) (v := ?_) rfl ?_ hS ?_
 rotate_left
 ·intro wz ⟨_, _⟩; go_simp; try with_reducible rfl
 refine tH (i := 4) (v := ?_) rfl ?_ hS ?_
 rotate_left
 ·intro wz ⟨_, _⟩; go_simp; try with_reducible rfl
 refine held_call (i := 5) 31 #[.int .u64 v] rfl (by kernel_rfl) (by kernel_rfl) (by kernel_rfl) ?_
 refine (varlenr_any v _ HV0.out.1).mono ?_
 rintro e w9 ⟨rfl, rfl⟩
 rw [HVV.out]
 refine ⟨_, rfl, hS, ?_⟩
 refine tH (i := 6) (v := .bool false) rfl ?_ hS ?_
 ·intro wz ⟨_, _⟩; go_simp; try rw [hpV]; try with_reducible rfl
 refine tH (i := 7) (v := ?_) rfl ?_ hS ?_
 rotate_left
 ·intro wz ⟨_, _⟩; go_simp; try with_reducible rfl
 refine wpAnyH_done (by kernel_rfl) ?_ _
 clear hS c1 hpV
 refine thenX_named ?_
 intro w3 hw3
 have HK3 : Hid (Below w.heap.size w w3) := Lib.hid (by rw [← hw3]; exact HK2.out.drew)
 have HZ3 : Hid (Blk w3 rs #[.int .u64 0, .int .u64 0, .int .u64 0, .bool false, .int .u64 0, .int .u64 0, .int .u64 0, .slice none 0 0, .slice none 0 0, .bool false, .bool false, .int .i64 0] 32) := Lib.hid (by rw [← hw3]; exact HZ2.out.drew)
 clear hw3 HR2 HK2 HZ2
 obtain ⟨t0, t1, t2, t3, t4, t5, t6, t7, t8, t9, t10, t11⟩ := q12_cells HZ3.out
 obtain ⟨z0, z1, z2, z3, z4, z5, z6, z7, z8, z9, z10, z11⟩ := q12_free HZ3.out
 go_wp2_with fail
 refine bodyPost_ret (v := ?_) ?_ (by kernel_rfl) ?_
 rotate_left
 ·exact rf_results _ _ rs (.int .i64 0) (.int .i64 30) (by kernel_rfl) (by kernel_rfl) (by kernel_rfl) (qs_blk HZ3.out _ _ _ _ _ _ _ _ _ _ _ _)
 exact ⟨Keeps.below HK3.out (qs_keep (b := rs) (S := fun k => k = rs) (Keeps.refl _ w3) (fun _ => rfl) (.int .u64 0) (.int .u64 0) (.int .u64 0) (.bool false) (.int .u64 0) (.int .u64 0) (.int .u64 0) (.slice none 0 0) (.slice none 0 0) (.bool false) (.bool false) (.int .i64 0)) HK3.out.size (fun k h => by have := HRR.out; omega), rfl⟩

theorem pad_cells {w : World} {ba off m cap Z : Nat} {rest : List UInt8} (hb : By w (some ⟨ba, off, none⟩) m cap (0 :: rest)) (hZ : zeros (0 :: rest) = Z) : ∀ i (hi : i < m), ∃ C : Int, w.cell? ⟨ba, off + i, none⟩ = some (.int .u8 C) ∧ (i < Z → C = 0) ∧ (i = Z → (C == 0) = false) := fun i hi => by
 have hxm := hb.1
 obtain ⟨b2, off2, he, _, hcell⟩ := hb.get (by omega)
 cases he
 have hi2 : i < (0 :: rest).length := by omega
 refine ⟨_, hcell i hi2, fun h => ?_, fun h => ?_⟩
 ·rw [zeros_get (0 :: rest) i (by rw [hZ]; exact h) hi2]; rfl
 ·have h1 := zeros_end (0 :: rest) (by rw [hZ, ← h]; exact hi2)
  have h2 : (0 :: rest)[i] ≠ 0 := by
   intro e
   apply h1
   have h3 : zeros (0 :: rest) = i := by rw [hZ, h]
   simp only [h3]
   exact e
  have h0 : ((0 :: rest)[i]).toNat ≠ 0 := fun e => h2 (UInt8.toNat_inj.1 e)
  simp only [beq_eq_false_iff_ne, ne_eq]
  omega
set_option maxRecDepth 100000 in
set_option maxHeartbeats 6400000 in
theorem rf_pad (a : Option Addr) (m cap : Nat) (rest : List UInt8) (w : World) (hb : By w a m cap (0 :: rest)) (hm : m ≤ 1000000) (hlt : ∀ b, a.map (·.block) = some b → b < w.heap.size) :
  Calls Try.prog 18 #[.slice a m cap] w (ReadP m (padD rest) w) := by
 have hxm := hb.1
 rw [List.length_cons] at hxm
 have hm0 : 0 < m := by omega
 obtain ⟨Z, hZ⟩ : ∃ Z, zeros (0 :: rest) = Z := ⟨_, rfl⟩
 have hZ1 : Z = zeros rest + 1 := by rw [← hZ]; simp [zeros]
 have hzl := zeros_le (0 :: rest)
 obtain ⟨ba, off, rfl, _, hcell⟩ := hb.get hm0
 have e0 : w.cell? ⟨ba, off, none⟩ = some (.int .u8 0) := by have h := hcell 0 (by simp); simpa using h
 have hm1 : ((m : Int) == 0) = false := by simp; omega
 have hmI : (0 : Int) < (m : Int) := by omega
 have HZZ : Hid (Z ≤ m ∧ Z = zeros rest + 1 ∧ rest.length + 1 = m) := Lib.hid ⟨by rw [hZ] at hzl; rw [List.length_cons] at hzl; omega, hZ1, hxm.symm⟩
 have HM := Lib.hid hm
 have HC0 := Lib.hid (pad_cells (hb.alloc (.cells #[.int .u64 0, .int .u64 0, .int .u64 0, .bool false, .int .u64 0, .int .u64 0, .int .u64 0, .slice none 0 0, .slice none 0 0, .bool false, .bool false, .int .i64 0] 32 (0, 0))) hZ)
 clear hb hlt hcell hxm hZ hZ1 hzl
 go_enter Try.func18, Try.ntmps18
 go_wp2_with fail
 have HZ0 : Hid (Blk (w.alloc (.cells #[.int .u64 0, .int .u64 0, .int .u64 0, .bool false, .int .u64 0, .int .u64 0, .int .u64 0, .slice none 0 0, .slice none 0 0, .bool false, .bool false, .int .i64 0] 32 (0, 0))) w.heap.size #[.int .u64 0, .int .u64 0, .int .u64 0, .bool false, .int .u64 0, .int .u64 0, .int .u64 0, .slice none 0 0, .slice none 0 0, .bool false, .bool false, .int .i64 0] 32) := Lib.hid (Blk.new w _ _)
 have HK0 : Hid (Below w.heap.size w (w.alloc (.cells #[.int .u64 0, .int .u64 0, .int .u64 0, .bool false, .int .u64 0, .int .u64 0, .int .u64 0, .slice none 0 0, .slice none 0 0, .bool false, .bool false, .int .i64 0] 32 (0, 0)))) := Lib.hid ((Below.refl _ w).alloc (Nat.le_refl _) _)
 generalize w.alloc (.cells #[.int .u64 0, .int .u64 0, .int .u64 0, .bool false, .int .u64 0, .int .u64 0, .int .u64 0, .slice none 0 0, .slice none 0 0, .bool false, .bool false, .int .i64 0] 32 (0, 0)) = W0 at *
 go_loopg [5] Z (fun k v5 wr => ∃ i : Nat, v5 = .int .i64 (i : Int) ∧ k + i = Z ∧ W0 = wr)
 case atStart => exact ⟨0, rfl, by omega, rfl⟩
 case round =>
  obtain ⟨i, rfl, hki, rfl⟩ := hrel
  have HKI := Lib.hid hki
  clear hki
  by_cases him : i < m
  ·obtain ⟨C, ec, hc0, hcn⟩ := HC0.out i him
   have hz0 : (0 : Int) ≤ (i : Int) := by omega
   have hz1 : (i : Int) < (m : Int) := by omega
   have hd : decide ((i : Int) < (m : Int)) = true := decide_eq_true hz1
   by_cases hiZ : i < Z
   ·have hC := hc0 hiZ
    subst hC
    obtain ⟨k, rfl⟩ : ∃ k, gk = k + 1 := ⟨gk - 1, by have := HKI.out; omega⟩
    clear hc0 hcn
    go_wp2_with fail
    go_roundg k
    case measure => omega
    case rel => exact ⟨i + 1, by go_num, by have := HKI.out; omega, rfl⟩
   ·have hie : i = Z := by have := HKI.out; omega
    have hC := hcn hie
    have HIE := Lib.hid hie
    clear hc0 hcn hie hiZ
    obtain ⟨t0, t1, t2, t3, t4, t5, t6, t7, t8, t9, t10, t11⟩ := q12_cells HZ0.out
    obtain ⟨z0, z1, z2, z3, z4, z5, z6, z7, z8, z9, z10, z11⟩ := q12_free HZ0.out
    go_wp2_with fail
    refine bodyPost_ret (v := ?_) ?_ (by kernel_rfl) ?_
    rotate_left
    ·exact rf_results _ _ w.heap.size (.int .i64 (i : Int)) (.int .i64 0) (by kernel_rfl) (by kernel_rfl) (by kernel_rfl) (qs_blk HZ0.out _ _ _ _ _ _ _ _ _ _ _ _)
    refine ⟨Keeps.below HK0.out (qs_keep (b := w.heap.size) (S := fun k => k = w.heap.size) (Keeps.refl _ W0) (fun _ => rfl) (.int .u64 0) (.int .u64 0) (.int .u64 0) (.bool false) (.int .u64 0) (.int .u64 0) (.int .u64 0) (.slice none 0 0) (.slice none 0 0) (.bool false) (.bool false) (.int .i64 (i : Int))) HK0.out.size (fun k h => by omega), ?_⟩
    have hN : ((zeros rest : Int) + 1) = (i : Int) := by have h1 := HIE.out; have h2 := HZZ.out; omega
    refine ⟨⟨⟨0, 0, 0, false, 0, 0, 0, [], [], false, false, (zeros rest : Int) + 1⟩, none, 0, 0, none, 0, 0⟩, rfl, ?_, Qn.plain _ _ _ _ _ _ _ _ _ _ _ _ inU_0 inU_0 inU_0 inU_0 inU_0 inU_0 ⟨by omega, by have := HZZ.out; omega⟩ (by have := HZZ.out; omega)⟩
    unfold Qf.cs
    dsimp only
    rw [hN]
    have hL : m - (rest.drop (zeros rest)).length = i := by rw [List.length_drop]; have h1 := HIE.out; have h2 := HZZ.out; omega
    rw [hL]
    try rfl
  ·have hie : i = Z := by have := HKI.out; have := HZZ.out; omega
   have HIE := Lib.hid hie
   have hd : decide ((i : Int) < (m : Int)) = false := by simp; omega
   clear hie
   obtain ⟨t0, t1, t2, t3, t4, t5, t6, t7, t8, t9, t10, t11⟩ := q12_cells HZ0.out
   obtain ⟨z0, z1, z2, z3, z4, z5, z6, z7, z8, z9, z10, z11⟩ := q12_free HZ0.out
   go_wp2_with fail
   refine bodyPost_ret (v := ?_) ?_ (by kernel_rfl) ?_
   rotate_left
   ·exact rf_results _ _ w.heap.size (.int .i64 (i : Int)) (.int .i64 0) (by kernel_rfl) (by kernel_rfl) (by kernel_rfl) (qs_blk HZ0.out _ _ _ _ _ _ _ _ _ _ _ _)
   refine ⟨Keeps.below HK0.out (qs_keep (b := w.heap.size) (S := fun k => k = w.heap.size) (Keeps.refl _ W0) (fun _ => rfl) (.int .u64 0) (.int .u64 0) (.int .u64 0) (.bool false) (.int .u64 0) (.int .u64 0) (.int .u64 0) (.slice none 0 0) (.slice none 0 0) (.bool false) (.bool false) (.int .i64 (i : Int))) HK0.out.size (fun k h => by omega), ?_⟩
   have hN : ((zeros rest : Int) + 1) = (i : Int) := by have h1 := HIE.out; have h2 := HZZ.out; omega
   refine ⟨⟨⟨0, 0, 0, false, 0, 0, 0, [], [], false, false, (zeros rest : Int) + 1⟩, none, 0, 0, none, 0, 0⟩, rfl, ?_, Qn.plain _ _ _ _ _ _ _ _ _ _ _ _ inU_0 inU_0 inU_0 inU_0 inU_0 inU_0 ⟨by omega, by have := HZZ.out; omega⟩ (by have := HZZ.out; omega)⟩
   unfold Qf.cs
   dsimp only
   rw [hN]
   have hL : m - (rest.drop (zeros rest)).length = i := by rw [List.length_drop]; have h1 := HIE.out; have h2 := HZZ.out; omega
   rw [hL]
   try rfl

end Go.Proofs.Ytgfkgmmigbpciaa
