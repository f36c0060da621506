/- ReadFrame of the package bifoldref17: some types. -/
import Derived.Test.YtgfkgmmigbpciaaQrU
namespace Go.Proofs.Ytgfkgmmigbpciaa
set_option linter.unusedSimpArgs false
set_option linter.unusedVariables false
open Go.RowKit Go.Deep

set_option maxRecDepth 100000 in
set_option maxHeartbeats 100000000 in
theorem rt_c1 {ba off m cap : Nat} {xs ys1 : List UInt8} {t C V : Int} {p1 rs rb fb : Nat} {DD : Option (Qc × List UInt8)} {w w3 : World} (F : RfF ba off m cap xs ys1 t p1 rs rb fb DD w w3) (ht : 16 ≤ t ∧ t < 19) : rfR.1 ba off m cap xs ys1 t C V p1 rs rb fb DD w w3 := by
 have HLT := Lib.hid F.lt
 have HM := Lib.hid F.hm
 have HDD := Lib.hid F.dd
 have HR3 := Lib.hid F.r
 have HK3 := Lib.hid F.k
 have HZ3 := Lib.hid F.z
 have HL3 := Lib.hid F.l
 have HGE := Lib.hid F.ge
 have HNE := Lib.hid F.ne
 clear F
 intro J K' hJ hK
 by_cases h16 : t = 16
 ·subst h16
  go_wp2_with fail
  refine (rnum_q rb _ m cap xs p1 ys1 true w3 HR3.out).mono ?_
  rintro e w4 ⟨hk, v1, q1, y1_, ok1, rfl, hr, hs⟩
  have HK4 : Hid (Below w.heap.size w w4) := Lib.hid (Keeps.below HK3.out hk HK3.out.size (fun k h => by have h2 := HGE.out; omega))
  have HZ4 := Lib.hid (hk.blk HZ3.out HNE.out.1)
  have HL4 := Lib.hid (hk.blk HL3.out HNE.out.2.2)
  have HR4 := Lib.hid hr
  have HN1 := Lib.hid hs
  have HV1 := Lib.hid hs.bd
  clear hk hr hs
  clear HR3 HK3 HZ3 HL3
  have x4 : w4.cell? ⟨fb, 4, none⟩ = some (.int .u64 0) := HL4.out.cell 4
  have y4 : w4.frozen? ⟨fb, 4, none⟩ = false := HL4.out.free 4
  go_wp2_with fail
  clear x4 y4
  have hkk : Keeps (fun k => k = fb) w4 (w4.setCell ⟨fb, 4, none⟩ (.int .u64 v1)) := ((Keeps.refl (fun k => k = fb) w4).put 4 (.int .u64 v1))
  have HL5 : Hid (Blk (w4.setCell ⟨fb, 4, none⟩ (.int .u64 v1)) fb #[.int .u64 16, .int .u64 0, .int .u64 0, .bool false, .int .u64 v1, .int .u64 0, .int .u64 0, .slice none 0 0, .slice none 0 0, .bool false, .bool false, .int .i64 0] 32) := Lib.hid ((HL4.out.set 4 (.int .u64 v1)).as rfl)
  have HR5 := Lib.hid (HR4.out.keep hkk (fun h => HNE.out.2.2 h.symm) (fun b hb h => by have h1 := HLT.out b hb; have h2 := HGE.out; omega))
  have HK5 := Lib.hid (Keeps.below HK4.out hkk HK4.out.size (fun k h => by have h2 := HGE.out; omega))
  have HZ5 := Lib.hid (hkk.blk HZ4.out HNE.out.2.1)
  go_meet
  cases ok1 with
  | false => exact ⟨HZ5.out, HK5.out, .inr ⟨rfl, false, (⟨⟨16, 0, 0, false, v1, 0, 0, [], [], false, false, 0⟩, none, 0, 0, none, 0, 0⟩ : Qf), q1, y1_, HL5.out, HR5.out, fun h => (by cases h), fun _ => by rw [← HDD.out]; exact (show OptS true (maxD 16 ys1) (⟨16, 0, 0, false, v1, 0, 0, [], [], false, false, 0⟩) _ _ from by unfold maxD; exact OptS.bind HN1.out.opt (OptS.ret _ _)).no⟩⟩
  | true => exact ⟨HZ5.out, HK5.out, .inr ⟨rfl, true, (⟨⟨16, 0, 0, false, v1, 0, 0, [], [], false, false, 0⟩, none, 0, 0, none, 0, 0⟩ : Qf), q1, y1_, HL5.out, HR5.out, fun _ => ⟨by rw [← HDD.out]; exact (show OptS true (maxD 16 ys1) (⟨16, 0, 0, false, v1, 0, 0, [], [], false, false, 0⟩) _ _ from by unfold maxD; exact OptS.bind HN1.out.opt (OptS.ret _ _)).yes.2, Qn.plain _ _ _ _ _ _ _ _ _ _ _ _ ⟨by omega, by omega⟩ inU_0 inU_0 ⟨HV1.out.1, by have := HV1.out; omega⟩ inU_0 inU_0 inU_0 (by omega)⟩, fun h => (by cases h)⟩⟩
 by_cases h17 : t = 17
 ·subst h17
  go_wp2_with fail
  refine (rnum_q rb _ m cap xs p1 ys1 true w3 HR3.out).mono ?_
  rintro e w4 ⟨hk, v1, q1, y1_, ok1, rfl, hr, hs⟩
  have HK4 : Hid (Below w.heap.size w w4) := Lib.hid (Keeps.below HK3.out hk HK3.out.size (fun k h => by have h2 := HGE.out; omega))
  have HZ4 := Lib.hid (hk.blk HZ3.out HNE.out.1)
  have HL4 := Lib.hid (hk.blk HL3.out HNE.out.2.2)
  have HR4 := Lib.hid hr
  have HN1 := Lib.hid hs
  have HV1 := Lib.hid hs.bd
  clear hk hr hs
  clear HR3 HK3 HZ3 HL3
  have x1 : w4.cell? ⟨fb, 1, none⟩ = some (.int .u64 0) := HL4.out.cell 1
  have y1 : w4.frozen? ⟨fb, 1, none⟩ = false := HL4.out.free 1
  go_wp2_with fail
  clear x1 y1
  refine calls_named ?_
  intro w5 hw5
  have hkk : Keeps (fun k => k = fb) w4 w5 := by rw [← hw5]; exact ((Keeps.refl (fun k => k = fb) w4).put 1 (.int .u64 v1))
  have HL5 : Hid (Blk w5 fb #[.int .u64 17, .int .u64 v1, .int .u64 0, .bool false, .int .u64 0, .int .u64 0, .int .u64 0, .slice none 0 0, .slice none 0 0, .bool false, .bool false, .int .i64 0] 32) := Lib.hid (by rw [← hw5]; exact (HL4.out.set 1 (.int .u64 v1)).as rfl)
  have HR5 := Lib.hid (HR4.out.keep hkk (fun h => HNE.out.2.2 h.symm) (fun b hb h => by have h1 := HLT.out b hb; have h2 := HGE.out; omega))
  have HK5 : Hid (Below w.heap.size w w5) := Lib.hid (Keeps.below HK4.out hkk HK4.out.size (fun k h => by have h2 := HGE.out; omega))
  have HZ5 := Lib.hid (hkk.blk HZ4.out HNE.out.2.1)
  clear hkk hw5
  clear HR4 HK4 HZ4 HL4

  refine (rnum_q rb _ m cap xs q1 y1_ ok1 w5 HR5.out).mono ?_
  rintro e w6 ⟨hk, v2, q2, y2_, ok2, rfl, hr, hs⟩
  have HK6 : Hid (Below w.heap.size w w6) := Lib.hid (Keeps.below HK5.out hk HK5.out.size (fun k h => by have h2 := HGE.out; omega))
  have HZ6 := Lib.hid (hk.blk HZ5.out HNE.out.1)
  have HL6 := Lib.hid (hk.blk HL5.out HNE.out.2.2)
  have HR6 := Lib.hid hr
  have HN2 := Lib.hid hs
  have HV2 := Lib.hid hs.bd
  clear hk hr hs
  clear HR5 HK5 HZ5 HL5
  have x4 : w6.cell? ⟨fb, 4, none⟩ = some (.int .u64 0) := HL6.out.cell 4
  have y4 : w6.frozen? ⟨fb, 4, none⟩ = false := HL6.out.free 4
  go_wp2_with fail
  clear x4 y4
  have hkk : Keeps (fun k => k = fb) w6 (w6.setCell ⟨fb, 4, none⟩ (.int .u64 v2)) := ((Keeps.refl (fun k => k = fb) w6).put 4 (.int .u64 v2))
  have HL7 : Hid (Blk (w6.setCell ⟨fb, 4, none⟩ (.int .u64 v2)) fb #[.int .u64 17, .int .u64 v1, .int .u64 0, .bool false, .int .u64 v2, .int .u64 0, .int .u64 0, .slice none 0 0, .slice none 0 0, .bool false, .bool false, .int .i64 0] 32) := Lib.hid ((HL6.out.set 4 (.int .u64 v2)).as rfl)
  have HR7 := Lib.hid (HR6.out.keep hkk (fun h => HNE.out.2.2 h.symm) (fun b hb h => by have h1 := HLT.out b hb; have h2 := HGE.out; omega))
  have HK7 := Lib.hid (Keeps.below HK6.out hkk HK6.out.size (fun k h => by have h2 := HGE.out; omega))
  have HZ7 := Lib.hid (hkk.blk HZ6.out HNE.out.2.1)
  go_meet
  cases ok2 with
  | false => exact ⟨HZ7.out, HK7.out, .inr ⟨rfl, false, (⟨⟨17, v1, 0, false, v2, 0, 0, [], [], false, false, 0⟩, none, 0, 0, none, 0, 0⟩ : Qf), q2, y2_, HL7.out, HR7.out, fun h => (by cases h), fun _ => by rw [← HDD.out]; exact (show OptS true (msdD 17 ys1) (⟨17, v1, 0, false, v2, 0, 0, [], [], false, false, 0⟩) _ _ from by unfold msdD; exact OptS.bind HN1.out.opt (OptS.bind HN2.out.opt (OptS.ret _ _))).no⟩⟩
  | true => exact ⟨HZ7.out, HK7.out, .inr ⟨rfl, true, (⟨⟨17, v1, 0, false, v2, 0, 0, [], [], false, false, 0⟩, none, 0, 0, none, 0, 0⟩ : Qf), q2, y2_, HL7.out, HR7.out, fun _ => ⟨by rw [← HDD.out]; exact (show OptS true (msdD 17 ys1) (⟨17, v1, 0, false, v2, 0, 0, [], [], false, false, 0⟩) _ _ from by unfold msdD; exact OptS.bind HN1.out.opt (OptS.bind HN2.out.opt (OptS.ret _ _))).yes.2, Qn.plain _ _ _ _ _ _ _ _ _ _ _ _ ⟨by omega, by omega⟩ ⟨HV1.out.1, by have := HV1.out; omega⟩ inU_0 ⟨HV2.out.1, by have := HV2.out; omega⟩ inU_0 inU_0 inU_0 (by omega)⟩, fun h => (by cases h)⟩⟩
 by_cases h18 : t = 18
 ·subst h18
  have b1 : bits .and .u64 18 1 = 0 := by decide +kernel
  have b2 : bits .andNot .u64 18 1 = 18 := by decide +kernel
  have x9 : w3.cell? ⟨fb, 9, none⟩ = some (.bool false) := HL3.out.cell 9
  have x0 : w3.cell? ⟨fb, 0, none⟩ = some (.int .u64 18) := HL3.out.cell 0
  have y9 : w3.frozen? ⟨fb, 9, none⟩ = false := HL3.out.free 9
  have y0 : w3.frozen? ⟨fb, 0, none⟩ = false := HL3.out.free 0
  go_wp2_with fail
  clear x9 y9 x0 y0
  refine calls_named ?_
  intro w4 hw4
  have hkk : Keeps (fun k => k = fb) w3 w4 := by rw [← hw4]; exact (((Keeps.refl (fun k => k = fb) w3).put 9 (.bool false)).put 0 (.int .u64 18))
  have HL4 : Hid (Blk w4 fb #[.int .u64 18, .int .u64 0, .int .u64 0, .bool false, .int .u64 0, .int .u64 0, .int .u64 0, .slice none 0 0, .slice none 0 0, .bool false, .bool false, .int .i64 0] 32) := Lib.hid (by rw [← hw4]; exact ((HL3.out.set 9 (.bool false)).set 0 (.int .u64 18)).as rfl)
  have HR4 := Lib.hid (HR3.out.keep hkk (fun h => HNE.out.2.2 h.symm) (fun b hb h => by have h1 := HLT.out b hb; have h2 := HGE.out; omega))
  have HK4 : Hid (Below w.heap.size w w4) := Lib.hid (Keeps.below HK3.out hkk HK3.out.size (fun k h => by have h2 := HGE.out; omega))
  have HZ4 := Lib.hid (hkk.blk HZ3.out HNE.out.2.1)
  clear hkk hw4
  clear HR3 HK3 HZ3 HL3
  refine (rnum_q rb _ m cap xs p1 ys1 true w4 HR4.out).mono ?_
  rintro e w5 ⟨hk, v1, q1, y1_, ok1, rfl, hr, hs⟩
  have HK5 : Hid (Below w.heap.size w w5) := Lib.hid (Keeps.below HK4.out hk HK4.out.size (fun k h => by have h2 := HGE.out; omega))
  have HZ5 := Lib.hid (hk.blk HZ4.out HNE.out.1)
  have HL5 := Lib.hid (hk.blk HL4.out HNE.out.2.2)
  have HR5 := Lib.hid hr
  have HN1 := Lib.hid hs
  have HV1 := Lib.hid hs.bd
  clear hk hr hs
  clear HR4 HK4 HZ4 HL4
  have x4 : w5.cell? ⟨fb, 4, none⟩ = some (.int .u64 0) := HL5.out.cell 4
  have y4 : w5.frozen? ⟨fb, 4, none⟩ = false := HL5.out.free 4
  go_upto_region 54 with fail
  clear x4 y4
  refine wp_named ?_
  intro w6 hw6
  have hkk : Keeps (fun k => k = fb) w5 w6 := by rw [← hw6]; exact ((Keeps.refl (fun k => k = fb) w5).put 4 (.int .u64 v1))
  have HL6 : Hid (Blk w6 fb #[.int .u64 18, .int .u64 0, .int .u64 0, .bool false, .int .u64 v1, .int .u64 0, .int .u64 0, .slice none 0 0, .slice none 0 0, .bool false, .bool false, .int .i64 0] 32) := Lib.hid (by rw [← hw6]; exact (HL5.out.set 4 (.int .u64 v1)).as rfl)
  have HR6 := Lib.hid (HR5.out.keep hkk (fun h => HNE.out.2.2 h.symm) (fun b hb h => by have h1 := HLT.out b hb; have h2 := HGE.out; omega))
  have HK6 : Hid (Below w.heap.size w w6) := Lib.hid (Keeps.below HK5.out hkk HK5.out.size (fun k h => by have h2 := HGE.out; omega))
  have HZ6 := Lib.hid (hkk.blk HZ5.out HNE.out.2.1)
  clear hkk hw6
  clear HR5 HK5 HZ5 HL5
  have x4 : w6.cell? ⟨fb, 4, none⟩ = some (.int .u64 v1) := HL6.out.cell 4
  by_cases hg : v1 ≤ 1152921504606846976
  rotate_left
  ·have hgd : decide (v1 ≤ 1152921504606846976) = false := decide_eq_false hg
   have HG : Hid (¬ v1 ≤ 1152921504606846976 ∨ False) := Lib.hid (Or.inl hg)
   go_wp2_with fail
   clear x4 hgd
   go_meet
   exact ⟨HZ6.out, HK6.out, .inl ⟨rfl, by rw [← HDD.out]; exact (show OptS true (strsD 18 false ys1) (⟨18, 0, 0, false, v1, 0, 0, [], [], false, false, 0⟩) ys1 false from by unfold strsD; exact OptS.noB _ _ HN1.out.opt (fun _ => if_neg (by have h := HG.out; omega))).no⟩⟩
  have hgd : decide (v1 ≤ 1152921504606846976) = true := decide_eq_true hg
  have HG := Lib.hid hg
  go_wp2_with fail
  clear x4 hgd hg
  go_meet
  cases ok1 with
  | false => exact ⟨HZ6.out, HK6.out, .inr ⟨rfl, false, (⟨⟨18, 0, 0, false, v1, 0, 0, [], [], false, false, 0⟩, none, 0, 0, none, 0, 0⟩ : Qf), q1, y1_, HL6.out, HR6.out, fun h => (by cases h), fun _ => by rw [← HDD.out]; exact (show OptS true (strsD 18 false ys1) (⟨18, 0, 0, false, v1, 0, 0, [], [], false, false, 0⟩) _ _ from by unfold strsD; exact OptS.bind HN1.out.opt (OptS.ite _ _ (fun _ => HG.out))).no⟩⟩
  | true => exact ⟨HZ6.out, HK6.out, .inr ⟨rfl, true, (⟨⟨18, 0, 0, false, v1, 0, 0, [], [], false, false, 0⟩, none, 0, 0, none, 0, 0⟩ : Qf), q1, y1_, HL6.out, HR6.out, fun _ => ⟨by rw [← HDD.out]; exact (show OptS true (strsD 18 false ys1) (⟨18, 0, 0, false, v1, 0, 0, [], [], false, false, 0⟩) _ _ from by unfold strsD; exact OptS.bind HN1.out.opt (OptS.ite _ _ (fun _ => HG.out))).yes.2, Qn.plain _ _ _ _ _ _ _ _ _ _ _ _ ⟨by omega, by omega⟩ inU_0 inU_0 ⟨HV1.out.1, by have := HV1.out; omega⟩ inU_0 inU_0 inU_0 (by omega)⟩, fun h => (by cases h)⟩⟩
 omega

set_option maxRecDepth 100000 in
set_option maxHeartbeats 100000000 in
theorem rt_c2 {ba off m cap : Nat} {xs ys1 : List UInt8} {t C V : Int} {p1 rs rb fb : Nat} {DD : Option (Qc × List UInt8)} {w w3 : World} (F : RfF ba off m cap xs ys1 t p1 rs rb fb DD w w3) (ht : 19 ≤ t ∧ t < 22) : rfR.1 ba off m cap xs ys1 t C V p1 rs rb fb DD w w3 := by
 have HLT := Lib.hid F.lt
 have HM := Lib.hid F.hm
 have HDD := Lib.hid F.dd
 have HR3 := Lib.hid F.r
 have HK3 := Lib.hid F.k
 have HZ3 := Lib.hid F.z
 have HL3 := Lib.hid F.l
 have HGE := Lib.hid F.ge
 have HNE := Lib.hid F.ne
 clear F
 intro J K' hJ hK
 by_cases h19 : t = 19
 ·subst h19
  have b1 : bits .and .u64 19 1 = 1 := by decide +kernel
  have b2 : bits .andNot .u64 19 1 = 18 := by decide +kernel
  have x9 : w3.cell? ⟨fb, 9, none⟩ = some (.bool false) := HL3.out.cell 9
  have x0 : w3.cell? ⟨fb, 0, none⟩ = some (.int .u64 19) := HL3.out.cell 0
  have y9 : w3.frozen? ⟨fb, 9, none⟩ = false := HL3.out.free 9
  have y0 : w3.frozen? ⟨fb, 0, none⟩ = false := HL3.out.free 0
  go_wp2_with fail
  clear x9 y9 x0 y0
  refine calls_named ?_
  intro w4 hw4
  have hkk : Keeps (fun k => k = fb) w3 w4 := by rw [← hw4]; exact (((Keeps.refl (fun k => k = fb) w3).put 9 (.bool true)).put 0 (.int .u64 18))
  have HL4 : Hid (Blk w4 fb #[.int .u64 18, .int .u64 0, .int .u64 0, .bool false, .int .u64 0, .int .u64 0, .int .u64 0, .slice none 0 0, .slice none 0 0, .bool true, .bool false, .int .i64 0] 32) := Lib.hid (by rw [← hw4]; exact ((HL3.out.set 9 (.bool true)).set 0 (.int .u64 18)).as rfl)
  have HR4 := Lib.hid (HR3.out.keep hkk (fun h => HNE.out.2.2 h.symm) (fun b hb h => by have h1 := HLT.out b hb; have h2 := HGE.out; omega))
  have HK4 : Hid (Below w.heap.size w w4) := Lib.hid (Keeps.below HK3.out hkk HK3.out.size (fun k h => by have h2 := HGE.out; omega))
  have HZ4 := Lib.hid (hkk.blk HZ3.out HNE.out.2.1)
  clear hkk hw4
  clear HR3 HK3 HZ3 HL3
  refine (rnum_q rb _ m cap xs p1 ys1 true w4 HR4.out).mono ?_
  rintro e w5 ⟨hk, v1, q1, y1_, ok1, rfl, hr, hs⟩
  have HK5 : Hid (Below w.heap.size w w5) := Lib.hid (Keeps.below HK4.out hk HK4.out.size (fun k h => by have h2 := HGE.out; omega))
  have HZ5 := Lib.hid (hk.blk HZ4.out HNE.out.1)
  have HL5 := Lib.hid (hk.blk HL4.out HNE.out.2.2)
  have HR5 := Lib.hid hr
  have HN1 := Lib.hid hs
  have HV1 := Lib.hid hs.bd
  clear hk hr hs
  clear HR4 HK4 HZ4 HL4
  have x4 : w5.cell? ⟨fb, 4, none⟩ = some (.int .u64 0) := HL5.out.cell 4
  have y4 : w5.frozen? ⟨fb, 4, none⟩ = false := HL5.out.free 4
  go_upto_region 54 with fail
  clear x4 y4
  refine wp_named ?_
  intro w6 hw6
  have hkk : Keeps (fun k => k = fb) w5 w6 := by rw [← hw6]; exact ((Keeps.refl (fun k => k = fb) w5).put 4 (.int .u64 v1))
  have HL6 : Hid (Blk w6 fb #[.int .u64 18, .int .u64 0, .int .u64 0, .bool false, .int .u64 v1, .int .u64 0, .int .u64 0, .slice none 0 0, .slice none 0 0, .bool true, .bool false, .int .i64 0] 32) := Lib.hid (by rw [← hw6]; exact (HL5.out.set 4 (.int .u64 v1)).as rfl)
  have HR6 := Lib.hid (HR5.out.keep hkk (fun h => HNE.out.2.2 h.symm) (fun b hb h => by have h1 := HLT.out b hb; have h2 := HGE.out; omega))
  have HK6 : Hid (Below w.heap.size w w6) := Lib.hid (Keeps.below HK5.out hkk HK5.out.size (fun k h => by have h2 := HGE.out; omega))
  have HZ6 := Lib.hid (hkk.blk HZ5.out HNE.out.2.1)
  clear hkk hw6
  clear HR5 HK5 HZ5 HL5
  have x4 : w6.cell? ⟨fb, 4, none⟩ = some (.int .u64 v1) := HL6.out.cell 4
  by_cases hg : v1 ≤ 1152921504606846976
  rotate_left
  ·have hgd : decide (v1 ≤ 1152921504606846976) = false := decide_eq_false hg
   have HG : Hid (¬ v1 ≤ 1152921504606846976 ∨ False) := Lib.hid (Or.inl hg)
   go_wp2_with fail
   clear x4 hgd
   go_meet
   exact ⟨HZ6.out, HK6.out, .inl ⟨rfl, by rw [← HDD.out]; exact (show OptS true (strsD 18 true ys1) (⟨18, 0, 0, false, v1, 0, 0, [], [], true, false, 0⟩) ys1 false from by unfold strsD; exact OptS.noB _ _ HN1.out.opt (fun _ => if_neg (by have h := HG.out; omega))).no⟩⟩
  have hgd : decide (v1 ≤ 1152921504606846976) = true := decide_eq_true hg
  have HG := Lib.hid hg
  go_wp2_with fail
  clear x4 hgd hg
  go_meet
  cases ok1 with
  | false => exact ⟨HZ6.out, HK6.out, .inr ⟨rfl, false, (⟨⟨18, 0, 0, false, v1, 0, 0, [], [], true, false, 0⟩, none, 0, 0, none, 0, 0⟩ : Qf), q1, y1_, HL6.out, HR6.out, fun h => (by cases h), fun _ => by rw [← HDD.out]; exact (show OptS true (strsD 18 true ys1) (⟨18, 0, 0, false, v1, 0, 0, [], [], true, false, 0⟩) _ _ from by unfold strsD; exact OptS.bind HN1.out.opt (OptS.ite _ _ (fun _ => HG.out))).no⟩⟩
  | true => exact ⟨HZ6.out, HK6.out, .inr ⟨rfl, true, (⟨⟨18, 0, 0, false, v1, 0, 0, [], [], true, false, 0⟩, none, 0, 0, none, 0, 0⟩ : Qf), q1, y1_, HL6.out, HR6.out, fun _ => ⟨by rw [← HDD.out]; exact (show OptS true (strsD 18 true ys1) (⟨18, 0, 0, false, v1, 0, 0, [], [], true, false, 0⟩) _ _ from by unfold strsD; exact OptS.bind HN1.out.opt (OptS.ite _ _ (fun _ => HG.out))).yes.2, Qn.plain _ _ _ _ _ _ _ _ _ _ _ _ ⟨by omega, by omega⟩ inU_0 inU_0 ⟨HV1.out.1, by have := HV1.out; omega⟩ inU_0 inU_0 inU_0 (by omega)⟩, fun h => (by cases h)⟩⟩
 by_cases h20 : t = 20
 ·subst h20
  go_wp2_with fail
  refine (rnum_q rb _ m cap xs p1 ys1 true w3 HR3.out).mono ?_
  rintro e w4 ⟨hk, v1, q1, y1_, ok1, rfl, hr, hs⟩
  have HK4 : Hid (Below w.heap.size w w4) := Lib.hid (Keeps.below HK3.out hk HK3.out.size (fun k h => by have h2 := HGE.out; omega))
  have HZ4 := Lib.hid (hk.blk HZ3.out HNE.out.1)
  have HL4 := Lib.hid (hk.blk HL3.out HNE.out.2.2)
  have HR4 := Lib.hid hr
  have HN1 := Lib.hid hs
  have HV1 := Lib.hid hs.bd
  clear hk hr hs
  clear HR3 HK3 HZ3 HL3
  have x4 : w4.cell? ⟨fb, 4, none⟩ = some (.int .u64 0) := HL4.out.cell 4
  have y4 : w4.frozen? ⟨fb, 4, none⟩ = false := HL4.out.free 4
  go_wp2_with fail
  clear x4 y4
  have hkk : Keeps (fun k => k = fb) w4 (w4.setCell ⟨fb, 4, none⟩ (.int .u64 v1)) := ((Keeps.refl (fun k => k = fb) w4).put 4 (.int .u64 v1))
  have HL5 : Hid (Blk (w4.setCell ⟨fb, 4, none⟩ (.int .u64 v1)) fb #[.int .u64 20, .int .u64 0, .int .u64 0, .bool false, .int .u64 v1, .int .u64 0, .int .u64 0, .slice none 0 0, .slice none 0 0, .bool false, .bool false, .int .i64 0] 32) := Lib.hid ((HL4.out.set 4 (.int .u64 v1)).as rfl)
  have HR5 := Lib.hid (HR4.out.keep hkk (fun h => HNE.out.2.2 h.symm) (fun b hb h => by have h1 := HLT.out b hb; have h2 := HGE.out; omega))
  have HK5 := Lib.hid (Keeps.below HK4.out hkk HK4.out.size (fun k h => by have h2 := HGE.out; omega))
  have HZ5 := Lib.hid (hkk.blk HZ4.out HNE.out.2.1)
  go_meet
  cases ok1 with
  | false => exact ⟨HZ5.out, HK5.out, .inr ⟨rfl, false, (⟨⟨20, 0, 0, false, v1, 0, 0, [], [], false, false, 0⟩, none, 0, 0, none, 0, 0⟩ : Qf), q1, y1_, HL5.out, HR5.out, fun h => (by cases h), fun _ => by rw [← HDD.out]; exact (show OptS true (maxD 20 ys1) (⟨20, 0, 0, false, v1, 0, 0, [], [], false, false, 0⟩) _ _ from by unfold maxD; exact OptS.bind HN1.out.opt (OptS.ret _ _)).no⟩⟩
  | true => exact ⟨HZ5.out, HK5.out, .inr ⟨rfl, true, (⟨⟨20, 0, 0, false, v1, 0, 0, [], [], false, false, 0⟩, none, 0, 0, none, 0, 0⟩ : Qf), q1, y1_, HL5.out, HR5.out, fun _ => ⟨by rw [← HDD.out]; exact (show OptS true (maxD 20 ys1) (⟨20, 0, 0, false, v1, 0, 0, [], [], false, false, 0⟩) _ _ from by unfold maxD; exact OptS.bind HN1.out.opt (OptS.ret _ _)).yes.2, Qn.plain _ _ _ _ _ _ _ _ _ _ _ _ ⟨by omega, by omega⟩ inU_0 inU_0 ⟨HV1.out.1, by have := HV1.out; omega⟩ inU_0 inU_0 inU_0 (by omega)⟩, fun h => (by cases h)⟩⟩
 by_cases h21 : t = 21
 ·subst h21
  go_wp2_with fail
  refine (rnum_q rb _ m cap xs p1 ys1 true w3 HR3.out).mono ?_
  rintro e w4 ⟨hk, v1, q1, y1_, ok1, rfl, hr, hs⟩
  have HK4 : Hid (Below w.heap.size w w4) := Lib.hid (Keeps.below HK3.out hk HK3.out.size (fun k h => by have h2 := HGE.out; omega))
  have HZ4 := Lib.hid (hk.blk HZ3.out HNE.out.1)
  have HL4 := Lib.hid (hk.blk HL3.out HNE.out.2.2)
  have HR4 := Lib.hid hr
  have HN1 := Lib.hid hs
  have HV1 := Lib.hid hs.bd
  clear hk hr hs
  clear HR3 HK3 HZ3 HL3
  have x1 : w4.cell? ⟨fb, 1, none⟩ = some (.int .u64 0) := HL4.out.cell 1
  have y1 : w4.frozen? ⟨fb, 1, none⟩ = false := HL4.out.free 1
  go_wp2_with fail
  clear x1 y1
  refine calls_named ?_
  intro w5 hw5
  have hkk : Keeps (fun k => k = fb) w4 w5 := by rw [← hw5]; exact ((Keeps.refl (fun k => k = fb) w4).put 1 (.int .u64 v1))
  have HL5 : Hid (Blk w5 fb #[.int .u64 21, .int .u64 v1, .int .u64 0, .bool false, .int .u64 0, .int .u64 0, .int .u64 0, .slice none 0 0, .slice none 0 0, .bool false, .bool false, .int .i64 0] 32) := Lib.hid (by rw [← hw5]; exact (HL4.out.set 1 (.int .u64 v1)).as rfl)
  have HR5 := Lib.hid (HR4.out.keep hkk (fun h => HNE.out.2.2 h.symm) (fun b hb h => by have h1 := HLT.out b hb; have h2 := HGE.out; omega))
  have HK5 : Hid (Below w.heap.size w w5) := Lib.hid (Keeps.below HK4.out hkk HK4.out.size (fun k h => by have h2 := HGE.out; omega))
  have HZ5 := Lib.hid (hkk.blk HZ4.out HNE.out.2.1)
  clear hkk hw5
  clear HR4 HK4 HZ4 HL4

  refine (rnum_q rb _ m cap xs q1 y1_ ok1 w5 HR5.out).mono ?_
  rintro e w6 ⟨hk, v2, q2, y2_, ok2, rfl, hr, hs⟩
  have HK6 : Hid (Below w.heap.size w w6) := Lib.hid (Keeps.below HK5.out hk HK5.out.size (fun k h => by have h2 := HGE.out; omega))
  have HZ6 := Lib.hid (hk.blk HZ5.out HNE.out.1)
  have HL6 := Lib.hid (hk.blk HL5.out HNE.out.2.2)
  have HR6 := Lib.hid hr
  have HN2 := Lib.hid hs
  have HV2 := Lib.hid hs.bd
  clear hk hr hs
  clear HR5 HK5 HZ5 HL5
  have x4 : w6.cell? ⟨fb, 4, none⟩ = some (.int .u64 0) := HL6.out.cell 4
  have y4 : w6.frozen? ⟨fb, 4, none⟩ = false := HL6.out.free 4
  go_wp2_with fail
  clear x4 y4
  have hkk : Keeps (fun k => k = fb) w6 (w6.setCell ⟨fb, 4, none⟩ (.int .u64 v2)) := ((Keeps.refl (fun k => k = fb) w6).put 4 (.int .u64 v2))
  have HL7 : Hid (Blk (w6.setCell ⟨fb, 4, none⟩ (.int .u64 v2)) fb #[.int .u64 21, .int .u64 v1, .int .u64 0, .bool false, .int .u64 v2, .int .u64 0, .int .u64 0, .slice none 0 0, .slice none 0 0, .bool false, .bool false, .int .i64 0] 32) := Lib.hid ((HL6.out.set 4 (.int .u64 v2)).as rfl)
  have HR7 := Lib.hid (HR6.out.keep hkk (fun h => HNE.out.2.2 h.symm) (fun b hb h => by have h1 := HLT.out b hb; have h2 := HGE.out; omega))
  have HK7 := Lib.hid (Keeps.below HK6.out hkk HK6.out.size (fun k h => by have h2 := HGE.out; omega))
  have HZ7 := Lib.hid (hkk.blk HZ6.out HNE.out.2.1)
  go_meet
  cases ok2 with
  | false => exact ⟨HZ7.out, HK7.out, .inr ⟨rfl, false, (⟨⟨21, v1, 0, false, v2, 0, 0, [], [], false, false, 0⟩, none, 0, 0, none, 0, 0⟩ : Qf), q2, y2_, HL7.out, HR7.out, fun h => (by cases h), fun _ => by rw [← HDD.out]; exact (show OptS true (msdD 21 ys1) (⟨21, v1, 0, false, v2, 0, 0, [], [], false, false, 0⟩) _ _ from by unfold msdD; exact OptS.bind HN1.out.opt (OptS.bind HN2.out.opt (OptS.ret _ _))).no⟩⟩
  | true => exact ⟨HZ7.out, HK7.out, .inr ⟨rfl, true, (⟨⟨21, v1, 0, false, v2, 0, 0, [], [], false, false, 0⟩, none, 0, 0, none, 0, 0⟩ : Qf), q2, y2_, HL7.out, HR7.out, fun _ => ⟨by rw [← HDD.out]; exact (show OptS true (msdD 21 ys1) (⟨21, v1, 0, false, v2, 0, 0, [], [], false, false, 0⟩) _ _ from by unfold msdD; exact OptS.bind HN1.out.opt (OptS.bind HN2.out.opt (OptS.ret _ _))).yes.2, Qn.plain _ _ _ _ _ _ _ _ _ _ _ _ ⟨by omega, by omega⟩ ⟨HV1.out.1, by have := HV1.out; omega⟩ inU_0 ⟨HV2.out.1, by have := HV2.out; omega⟩ inU_0 inU_0 inU_0 (by omega)⟩, fun h => (by cases h)⟩⟩
 omega

set_option maxRecDepth 100000 in
set_option maxHeartbeats 100000000 in
theorem rt_c3 {ba off m cap : Nat} {xs ys1 : List UInt8} {t C V : Int} {p1 rs rb fb : Nat} {DD : Option (Qc × List UInt8)} {w w3 : World} (F : RfF ba off m cap xs ys1 t p1 rs rb fb DD w w3) (ht : 22 ≤ t ∧ t < 24) : rfR.1 ba off m cap xs ys1 t C V p1 rs rb fb DD w w3 := by
 have HLT := Lib.hid F.lt
 have HM := Lib.hid F.hm
 have HDD := Lib.hid F.dd
 have HR3 := Lib.hid F.r
 have HK3 := Lib.hid F.k
 have HZ3 := Lib.hid F.z
 have HL3 := Lib.hid F.l
 have HGE := Lib.hid F.ge
 have HNE := Lib.hid F.ne
 clear F
 intro J K' hJ hK
 by_cases h22 : t = 22
 ·subst h22
  have b1 : bits .and .u64 22 1 = 0 := by decide +kernel
  have b2 : bits .andNot .u64 22 1 = 22 := by decide +kernel
  have x9 : w3.cell? ⟨fb, 9, none⟩ = some (.bool false) := HL3.out.cell 9
  have x0 : w3.cell? ⟨fb, 0, none⟩ = some (.int .u64 22) := HL3.out.cell 0
  have y9 : w3.frozen? ⟨fb, 9, none⟩ = false := HL3.out.free 9
  have y0 : w3.frozen? ⟨fb, 0, none⟩ = false := HL3.out.free 0
  go_wp2_with fail
  clear x9 y9 x0 y0
  refine calls_named ?_
  intro w4 hw4
  have hkk : Keeps (fun k => k = fb) w3 w4 := by rw [← hw4]; exact (((Keeps.refl (fun k => k = fb) w3).put 9 (.bool false)).put 0 (.int .u64 22))
  have HL4 : Hid (Blk w4 fb #[.int .u64 22, .int .u64 0, .int .u64 0, .bool false, .int .u64 0, .int .u64 0, .int .u64 0, .slice none 0 0, .slice none 0 0, .bool false, .bool false, .int .i64 0] 32) := Lib.hid (by rw [← hw4]; exact ((HL3.out.set 9 (.bool false)).set 0 (.int .u64 22)).as rfl)
  have HR4 := Lib.hid (HR3.out.keep hkk (fun h => HNE.out.2.2 h.symm) (fun b hb h => by have h1 := HLT.out b hb; have h2 := HGE.out; omega))
  have HK4 : Hid (Below w.heap.size w w4) := Lib.hid (Keeps.below HK3.out hkk HK3.out.size (fun k h => by have h2 := HGE.out; omega))
  have HZ4 := Lib.hid (hkk.blk HZ3.out HNE.out.2.1)
  clear hkk hw4
  clear HR3 HK3 HZ3 HL3
  refine (rnum_q rb _ m cap xs p1 ys1 true w4 HR4.out).mono ?_
  rintro e w5 ⟨hk, v1, q1, y1_, ok1, rfl, hr, hs⟩
  have HK5 : Hid (Below w.heap.size w w5) := Lib.hid (Keeps.below HK4.out hk HK4.out.size (fun k h => by have h2 := HGE.out; omega))
  have HZ5 := Lib.hid (hk.blk HZ4.out HNE.out.1)
  have HL5 := Lib.hid (hk.blk HL4.out HNE.out.2.2)
  have HR5 := Lib.hid hr
  have HN1 := Lib.hid hs
  have HV1 := Lib.hid hs.bd
  clear hk hr hs
  clear HR4 HK4 HZ4 HL4
  have x4 : w5.cell? ⟨fb, 4, none⟩ = some (.int .u64 0) := HL5.out.cell 4
  have y4 : w5.frozen? ⟨fb, 4, none⟩ = false := HL5.out.free 4
  go_upto_region 54 with fail
  clear x4 y4
  refine wp_named ?_
  intro w6 hw6
  have hkk : Keeps (fun k => k = fb) w5 w6 := by rw [← hw6]; exact ((Keeps.refl (fun k => k = fb) w5).put 4 (.int .u64 v1))
  have HL6 : Hid (Blk w6 fb #[.int .u64 22, .int .u64 0, .int .u64 0, .bool false, .int .u64 v1, .int .u64 0, .int .u64 0, .slice none 0 0, .slice none 0 0, .bool false, .bool false, .int .i64 0] 32) := Lib.hid (by rw [← hw6]; exact (HL5.out.set 4 (.int .u64 v1)).as rfl)
  have HR6 := Lib.hid (HR5.out.keep hkk (fun h => HNE.out.2.2 h.symm) (fun b hb h => by have h1 := HLT.out b hb; have h2 := HGE.out; omega))
  have HK6 : Hid (Below w.heap.size w w6) := Lib.hid (Keeps.below HK5.out hkk HK5.out.size (fun k h => by have h2 := HGE.out; omega))
  have HZ6 := Lib.hid (hkk.blk HZ5.out HNE.out.2.1)
  clear hkk hw6
  clear HR5 HK5 HZ5 HL5
  have x4 : w6.cell? ⟨fb, 4, none⟩ = some (.int .u64 v1) := HL6.out.cell 4
  by_cases hg : v1 ≤ 1152921504606846976
  rotate_left
  ·have hgd : decide (v1 ≤ 1152921504606846976) = false := decide_eq_false hg
   have HG : Hid (¬ v1 ≤ 1152921504606846976 ∨ False) := Lib.hid (Or.inl hg)
   go_wp2_with fail
   clear x4 hgd
   go_meet
   exact ⟨HZ6.out, HK6.out, .inl ⟨rfl, by rw [← HDD.out]; exact (show OptS true (strsD 22 false ys1) (⟨22, 0, 0, false, v1, 0, 0, [], [], false, false, 0⟩) ys1 false from by unfold strsD; exact OptS.noB _ _ HN1.out.opt (fun _ => if_neg (by have h := HG.out; omega))).no⟩⟩
  have hgd : decide (v1 ≤ 1152921504606846976) = true := decide_eq_true hg
  have HG := Lib.hid hg
  go_wp2_with fail
  clear x4 hgd hg
  go_meet
  cases ok1 with
  | false => exact ⟨HZ6.out, HK6.out, .inr ⟨rfl, false, (⟨⟨22, 0, 0, false, v1, 0, 0, [], [], false, false, 0⟩, none, 0, 0, none, 0, 0⟩ : Qf), q1, y1_, HL6.out, HR6.out, fun h => (by cases h), fun _ => by rw [← HDD.out]; exact (show OptS true (strsD 22 false ys1) (⟨22, 0, 0, false, v1, 0, 0, [], [], false, false, 0⟩) _ _ from by unfold strsD; exact OptS.bind HN1.out.opt (OptS.ite _ _ (fun _ => HG.out))).no⟩⟩
  | true => exact ⟨HZ6.out, HK6.out, .inr ⟨rfl, true, (⟨⟨22, 0, 0, false, v1, 0, 0, [], [], false, false, 0⟩, none, 0, 0, none, 0, 0⟩ : Qf), q1, y1_, HL6.out, HR6.out, fun _ => ⟨by rw [← HDD.out]; exact (show OptS true (strsD 22 false ys1) (⟨22, 0, 0, false, v1, 0, 0, [], [], false, false, 0⟩) _ _ from by unfold strsD; exact OptS.bind HN1.out.opt (OptS.ite _ _ (fun _ => HG.out))).yes.2, Qn.plain _ _ _ _ _ _ _ _ _ _ _ _ ⟨by omega, by omega⟩ inU_0 inU_0 ⟨HV1.out.1, by have := HV1.out; omega⟩ inU_0 inU_0 inU_0 (by omega)⟩, fun h => (by cases h)⟩⟩
 by_cases h23 : t = 23
 ·subst h23
  have b1 : bits .and .u64 23 1 = 1 := by decide +kernel
  have b2 : bits .andNot .u64 23 1 = 22 := by decide +kernel
  have x9 : w3.cell? ⟨fb, 9, none⟩ = some (.bool false) := HL3.out.cell 9
  have x0 : w3.cell? ⟨fb, 0, none⟩ = some (.int .u64 23) := HL3.out.cell 0
  have y9 : w3.frozen? ⟨fb, 9, none⟩ = false := HL3.out.free 9
  have y0 : w3.frozen? ⟨fb, 0, none⟩ = false := HL3.out.free 0
  go_wp2_with fail
  clear x9 y9 x0 y0
  refine calls_named ?_
  intro w4 hw4
  have hkk : Keeps (fun k => k = fb) w3 w4 := by rw [← hw4]; exact (((Keeps.refl (fun k => k = fb) w3).put 9 (.bool true)).put 0 (.int .u64 22))
  have HL4 : Hid (Blk w4 fb #[.int .u64 22, .int .u64 0, .int .u64 0, .bool false, .int .u64 0, .int .u64 0, .int .u64 0, .slice none 0 0, .slice none 0 0, .bool true, .bool false, .int .i64 0] 32) := Lib.hid (by rw [← hw4]; exact ((HL3.out.set 9 (.bool true)).set 0 (.int .u64 22)).as rfl)
  have HR4 := Lib.hid (HR3.out.keep hkk (fun h => HNE.out.2.2 h.symm) (fun b hb h => by have h1 := HLT.out b hb; have h2 := HGE.out; omega))
  have HK4 : Hid (Below w.heap.size w w4) := Lib.hid (Keeps.below HK3.out hkk HK3.out.size (fun k h => by have h2 := HGE.out; omega))
  have HZ4 := Lib.hid (hkk.blk HZ3.out HNE.out.2.1)
  clear hkk hw4
  clear HR3 HK3 HZ3 HL3
  refine (rnum_q rb _ m cap xs p1 ys1 true w4 HR4.out).mono ?_
  rintro e w5 ⟨hk, v1, q1, y1_, ok1, rfl, hr, hs⟩
  have HK5 : Hid (Below w.heap.size w w5) := Lib.hid (Keeps.below HK4.out hk HK4.out.size (fun k h => by have h2 := HGE.out; omega))
  have HZ5 := Lib.hid (hk.blk HZ4.out HNE.out.1)
  have HL5 := Lib.hid (hk.blk HL4.out HNE.out.2.2)
  have HR5 := Lib.hid hr
  have HN1 := Lib.hid hs
  have HV1 := Lib.hid hs.bd
  clear hk hr hs
  clear HR4 HK4 HZ4 HL4
  have x4 : w5.cell? ⟨fb, 4, none⟩ = some (.int .u64 0) := HL5.out.cell 4
  have y4 : w5.frozen? ⟨fb, 4, none⟩ = false := HL5.out.free 4
  go_upto_region 54 with fail
  clear x4 y4
  refine wp_named ?_
  intro w6 hw6
  have hkk : Keeps (fun k => k = fb) w5 w6 := by rw [← hw6]; exact ((Keeps.refl (fun k => k = fb) w5).put 4 (.int .u64 v1))
  have HL6 : Hid (Blk w6 fb #[.int .u64 22, .int .u64 0, .int .u64 0, .bool false, .int .u64 v1, .int .u64 0, .int .u64 0, .slice none 0 0, .slice none 0 0, .bool true, .bool false, .int .i64 0] 32) := Lib.hid (by rw [← hw6]; exact (HL5.out.set 4 (.int .u64 v1)).as rfl)
  have HR6 := Lib.hid (HR5.out.keep hkk (fun h => HNE.out.2.2 h.symm) (fun b hb h => by have h1 := HLT.out b hb; have h2 := HGE.out; omega))
  have HK6 : Hid (Below w.heap.size w w6) := Lib.hid (Keeps.below HK5.out hkk HK5.out.size (fun k h => by have h2 := HGE.out; omega))
  have HZ6 := Lib.hid (hkk.blk HZ5.out HNE.out.2.1)
  clear hkk hw6
  clear HR5 HK5 HZ5 HL5
  have x4 : w6.cell? ⟨fb, 4, none⟩ = some (.int .u64 v1) := HL6.out.cell 4
  by_cases hg : v1 ≤ 1152921504606846976
  rotate_left
  ·have hgd : decide (v1 ≤ 1152921504606846976) = false := decide_eq_false hg
   have HG : Hid (¬ v1 ≤ 1152921504606846976 ∨ False) := Lib.hid (Or.inl hg)
   go_wp2_with fail
   clear x4 hgd
   go_meet
   exact ⟨HZ6.out, HK6.out, .inl ⟨rfl, by rw [← HDD.out]; exact (show OptS true (strsD 22 true ys1) (⟨22, 0, 0, false, v1, 0, 0, [], [], true, false, 0⟩) ys1 false from by unfold strsD; exact OptS.noB _ _ HN1.out.opt (fun _ => if_neg (by have h := HG.out; omega))).no⟩⟩
  have hgd : decide (v1 ≤ 1152921504606846976) = true := decide_eq_true hg
  have HG := Lib.hid hg
  go_wp2_with fail
  clear x4 hgd hg
  go_meet
  cases ok1 with
  | false => exact ⟨HZ6.out, HK6.out, .inr ⟨rfl, false, (⟨⟨22, 0, 0, false, v1, 0, 0, [], [], true, false, 0⟩, none, 0, 0, none, 0, 0⟩ : Qf), q1, y1_, HL6.out, HR6.out, fun h => (by cases h), fun _ => by rw [← HDD.out]; exact (show OptS true (strsD 22 true ys1) (⟨22, 0, 0, false, v1, 0, 0, [], [], true, false, 0⟩) _ _ from by unfold strsD; exact OptS.bind HN1.out.opt (OptS.ite _ _ (fun _ => HG.out))).no⟩⟩
  | true => exact ⟨HZ6.out, HK6.out, .inr ⟨rfl, true, (⟨⟨22, 0, 0, false, v1, 0, 0, [], [], true, false, 0⟩, none, 0, 0, none, 0, 0⟩ : Qf), q1, y1_, HL6.out, HR6.out, fun _ => ⟨by rw [← HDD.out]; exact (show OptS true (strsD 22 true ys1) (⟨22, 0, 0, false, v1, 0, 0, [], [], true, false, 0⟩) _ _ from by unfold strsD; exact OptS.bind HN1.out.opt (OptS.ite _ _ (fun _ => HG.out))).yes.2, Qn.plain _ _ _ _ _ _ _ _ _ _ _ _ ⟨by omega, by omega⟩ inU_0 inU_0 ⟨HV1.out.1, by have := HV1.out; omega⟩ inU_0 inU_0 inU_0 (by omega)⟩, fun h => (by cases h)⟩⟩
 omega

end Go.Proofs.Ytgfkgmmigbpciaa
