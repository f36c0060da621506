/- ReadFrame of the package bifoldref17: some types. -/
import Derived.Test.YtgfkgmmigbpciaaQrU
namespace Go.Proofs.Ytgfkgmmigbpciaa
set_option linter.unusedSimpArgs false
set_option linter.unusedVariables false
open Go.RowKit Go.Deep

set_option maxRecDepth 100000 in
set_option maxHeartbeats 100000000 in
theorem rt_a {ba off m cap : Nat} {xs ys1 : List UInt8} {t C V : Int} {p1 rs rb fb : Nat} {DD : Option (Qc × List UInt8)} {w w3 : World} (F : RfF ba off m cap xs ys1 t p1 rs rb fb DD w w3) (ht : t < 8) (h0 : t ≠ 0) : rfR.1 ba off m cap xs ys1 t C V p1 rs rb fb DD w w3 := by
 have HLT := Lib.hid F.lt
 have HM := Lib.hid F.hm
 have HDD := Lib.hid F.dd
 have HR3 := Lib.hid F.r
 have HK3 := Lib.hid F.k
 have HZ3 := Lib.hid F.z
 have HL3 := Lib.hid F.l
 have HGE := Lib.hid F.ge
 have HNE := Lib.hid F.ne
 clear F
 intro J K' hJ hK
 by_cases h1 : t = 1
 ·subst h1
  go_wp2_with fail
  go_meet
  exact ⟨HZ3.out, HK3.out, .inr ⟨rfl, true, (⟨⟨1, 0, 0, false, 0, 0, 0, [], [], false, false, 0⟩, none, 0, 0, none, 0, 0⟩ : Qf), p1, ys1, HL3.out, HR3.out, fun _ => ⟨by rw [← HDD.out]; rfl, Qn.plain _ _ _ _ _ _ _ _ _ _ _ _ ⟨by omega, by omega⟩ inU_0 inU_0 inU_0 inU_0 inU_0 inU_0 (by omega)⟩, fun h => (by cases h)⟩⟩
 by_cases h2 : t = 2
 ·subst h2
  go_wp2_with fail
  refine (rreadack_any rb fb _ m cap xs p1 ys1 w3 HR3.out (fun b hb => Nat.lt_of_lt_of_le (HLT.out b hb) HK3.out.size) HL3.out HNE.out.2.2 (fun b hb => by have h1 := HLT.out b hb; have h2 := HGE.out; omega)).mono ?_
  rintro e w4 ⟨hk, hcase⟩
  have HK4 : Hid (Below w.heap.size w w4) := Lib.hid (Keeps.below HK3.out hk HK3.out.size (fun k h => by have h2 := HGE.out; omega))
  have HZ4 := Lib.hid (hk.blk HZ3.out (fun h => h.elim HNE.out.1 HNE.out.2.1))
  have HFB3 : Hid (fb < w3.heap.size) := Lib.hid HL3.out.lt
  clear hk HK3 HZ3 HL3 HR3
  rcases hcase with ⟨rfl, hdn⟩ | ⟨delay, rl, al, nl, cl, p', y', rfl, hds, hbl, hra, hrl, hdl, hrq⟩
  ·have HDN := Lib.hid hdn
   clear hdn
   go_wp2_with fail
   go_meet
   exact ⟨HZ4.out, HK4.out, .inl ⟨rfl, by rw [← HDD.out]; exact HDN.out⟩⟩
  have HDS := Lib.hid hds
  have HL4 := Lib.hid hbl
  have HRA := Lib.hid hra
  have HRL := Lib.hid hrl
  have HDL := Lib.hid hdl
  have HR4 := Lib.hid hrq
  clear hds hbl hra hrl hdl hrq
  go_wp2_with fail
  go_meet
  exact ⟨HZ4.out, HK4.out, .inr ⟨rfl, true, (⟨⟨2, 0, 0, false, 0, 0, delay, rl, [], false, false, 0⟩, al, nl, cl, none, 0, 0⟩ : Qf), p', y', HL4.out, HR4.out, fun _ => ⟨by rw [← HDD.out]; exact HDS.out, ⟨⟨By.nil _, HRA.out.rv, ⟨⟨by show (0 : Int) ≤ 2; omega, by show (2 : Int) ≤ _; omega⟩, inU_0, inU_0, inU_0, inU_0, HDL.out, HRL.out, (by show (-9223372036854775808 : Int) ≤ 0; omega), (by show (0 : Int) ≤ 9223372036854775807; omega)⟩⟩, fun b hb => (by cases hb), fun b hb => by have h1 := HRA.out.ge b hb; have h2 := HFB3.out; exact ⟨by omega, by omega⟩⟩⟩, fun h => (by cases h)⟩⟩
 by_cases h4 : t = 4
 ·subst h4
  go_wp2_with fail
  refine (rnum_q rb _ m cap xs p1 ys1 true w3 HR3.out).mono ?_
  rintro e w4 ⟨hk, v1, q1, y1_, ok1, rfl, hr, hs⟩
  have HK4 : Hid (Below w.heap.size w w4) := Lib.hid (Keeps.below HK3.out hk HK3.out.size (fun k h => by have h2 := HGE.out; omega))
  have HZ4 := Lib.hid (hk.blk HZ3.out HNE.out.1)
  have HL4 := Lib.hid (hk.blk HL3.out HNE.out.2.2)
  have HR4 := Lib.hid hr
  have HN1 := Lib.hid hs
  have HV1 := Lib.hid hs.bd
  clear hk hr hs
  clear HR3 HK3 HZ3 HL3
  have x1 : w4.cell? ⟨fb, 1, none⟩ = some (.int .u64 0) := HL4.out.cell 1
  have x5 : w4.cell? ⟨fb, 5, none⟩ = some (.int .u64 0) := HL4.out.cell 5
  have x4 : w4.cell? ⟨fb, 4, none⟩ = some (.int .u64 0) := HL4.out.cell 4
  have y1 : w4.frozen? ⟨fb, 1, none⟩ = false := HL4.out.free 1
  have y5 : w4.frozen? ⟨fb, 5, none⟩ = false := HL4.out.free 5
  have y4 : w4.frozen? ⟨fb, 4, none⟩ = false := HL4.out.free 4
  go_wp2_with fail
  clear x1 y1 x5 y5 x4 y4
  refine calls_named ?_
  intro w5 hw5
  have hkk : Keeps (fun k => k = fb) w4 w5 := by rw [← hw5]; exact ((((Keeps.refl (fun k => k = fb) w4).put 1 (.int .u64 v1)).put 5 (.int .u64 0)).put 4 (.int .u64 0))
  have HL5 : Hid (Blk w5 fb #[.int .u64 4, .int .u64 v1, .int .u64 0, .bool false, .int .u64 0, .int .u64 0, .int .u64 0, .slice none 0 0, .slice none 0 0, .bool false, .bool false, .int .i64 0] 32) := Lib.hid (by rw [← hw5]; exact (((HL4.out.set 1 (.int .u64 v1)).set 5 (.int .u64 0)).set 4 (.int .u64 0)).as rfl)
  have HR5 := Lib.hid (HR4.out.keep hkk (fun h => HNE.out.2.2 h.symm) (fun b hb h => by have h1 := HLT.out b hb; have h2 := HGE.out; omega))
  have HK5 : Hid (Below w.heap.size w w5) := Lib.hid (Keeps.below HK4.out hkk HK4.out.size (fun k h => by have h2 := HGE.out; omega))
  have HZ5 := Lib.hid (hkk.blk HZ4.out HNE.out.2.1)
  clear hkk hw5
  clear HR4 HK4 HZ4 HL4

  refine (rnum_q rb _ m cap xs q1 y1_ ok1 w5 HR5.out).mono ?_
  rintro e w6 ⟨hk, v2, q2, y2_, ok2, rfl, hr, hs⟩
  have HK6 : Hid (Below w.heap.size w w6) := Lib.hid (Keeps.below HK5.out hk HK5.out.size (fun k h => by have h2 := HGE.out; omega))
  have HZ6 := Lib.hid (hk.blk HZ5.out HNE.out.1)
  have HL6 := Lib.hid (hk.blk HL5.out HNE.out.2.2)
  have HR6 := Lib.hid hr
  have HN2 := Lib.hid hs
  have HV2 := Lib.hid hs.bd
  clear hk hr hs
  clear HR5 HK5 HZ5 HL5
  have x5 : w6.cell? ⟨fb, 5, none⟩ = some (.int .u64 0) := HL6.out.cell 5
  have y5 : w6.frozen? ⟨fb, 5, none⟩ = false := HL6.out.free 5
  go_wp2_with fail
  clear x5 y5
  refine calls_named ?_
  intro w7 hw7
  have hkk : Keeps (fun k => k = fb) w6 w7 := by rw [← hw7]; exact ((Keeps.refl (fun k => k = fb) w6).put 5 (.int .u64 v2))
  have HL7 : Hid (Blk w7 fb #[.int .u64 4, .int .u64 v1, .int .u64 0, .bool false, .int .u64 0, .int .u64 v2, .int .u64 0, .slice none 0 0, .slice none 0 0, .bool false, .bool false, .int .i64 0] 32) := Lib.hid (by rw [← hw7]; exact (HL6.out.set 5 (.int .u64 v2)).as rfl)
  have HR7 := Lib.hid (HR6.out.keep hkk (fun h => HNE.out.2.2 h.symm) (fun b hb h => by have h1 := HLT.out b hb; have h2 := HGE.out; omega))
  have HK7 : Hid (Below w.heap.size w w7) := Lib.hid (Keeps.below HK6.out hkk HK6.out.size (fun k h => by have h2 := HGE.out; omega))
  have HZ7 := Lib.hid (hkk.blk HZ6.out HNE.out.2.1)
  clear hkk hw7
  clear HR6 HK6 HZ6 HL6

  refine (rnum_q rb _ m cap xs q2 y2_ ok2 w7 HR7.out).mono ?_
  rintro e w8 ⟨hk, v3, q3, y3_, ok3, rfl, hr, hs⟩
  have HK8 : Hid (Below w.heap.size w w8) := Lib.hid (Keeps.below HK7.out hk HK7.out.size (fun k h => by have h2 := HGE.out; omega))
  have HZ8 := Lib.hid (hk.blk HZ7.out HNE.out.1)
  have HL8 := Lib.hid (hk.blk HL7.out HNE.out.2.2)
  have HR8 := Lib.hid hr
  have HN3 := Lib.hid hs
  have HV3 := Lib.hid hs.bd
  clear hk hr hs
  clear HR7 HK7 HZ7 HL7
  have x4 : w8.cell? ⟨fb, 4, none⟩ = some (.int .u64 0) := HL8.out.cell 4
  have y4 : w8.frozen? ⟨fb, 4, none⟩ = false := HL8.out.free 4
  go_wp2_with fail
  clear x4 y4
  have hkk : Keeps (fun k => k = fb) w8 (w8.setCell ⟨fb, 4, none⟩ (.int .u64 v3)) := ((Keeps.refl (fun k => k = fb) w8).put 4 (.int .u64 v3))
  have HL9 : Hid (Blk (w8.setCell ⟨fb, 4, none⟩ (.int .u64 v3)) fb #[.int .u64 4, .int .u64 v1, .int .u64 0, .bool false, .int .u64 v3, .int .u64 v2, .int .u64 0, .slice none 0 0, .slice none 0 0, .bool false, .bool false, .int .i64 0] 32) := Lib.hid ((HL8.out.set 4 (.int .u64 v3)).as rfl)
  have HR9 := Lib.hid (HR8.out.keep hkk (fun h => HNE.out.2.2 h.symm) (fun b hb h => by have h1 := HLT.out b hb; have h2 := HGE.out; omega))
  have HK9 := Lib.hid (Keeps.below HK8.out hkk HK8.out.size (fun k h => by have h2 := HGE.out; omega))
  have HZ9 := Lib.hid (hkk.blk HZ8.out HNE.out.2.1)
  go_meet
  cases ok3 with
  | false => exact ⟨HZ9.out, HK9.out, .inr ⟨rfl, false, (⟨⟨4, v1, 0, false, v3, v2, 0, [], [], false, false, 0⟩, none, 0, 0, none, 0, 0⟩ : Qf), q3, y3_, HL9.out, HR9.out, fun h => (by cases h), fun _ => by rw [← HDD.out]; exact (show OptS true (resD ys1) (⟨4, v1, 0, false, v3, v2, 0, [], [], false, false, 0⟩) _ _ from by unfold resD; exact OptS.bind HN1.out.opt (OptS.bind HN2.out.opt (OptS.bind HN3.out.opt (OptS.ret _ _)))).no⟩⟩
  | true => exact ⟨HZ9.out, HK9.out, .inr ⟨rfl, true, (⟨⟨4, v1, 0, false, v3, v2, 0, [], [], false, false, 0⟩, none, 0, 0, none, 0, 0⟩ : Qf), q3, y3_, HL9.out, HR9.out, fun _ => ⟨by rw [← HDD.out]; exact (show OptS true (resD ys1) (⟨4, v1, 0, false, v3, v2, 0, [], [], false, false, 0⟩) _ _ from by unfold resD; exact OptS.bind HN1.out.opt (OptS.bind HN2.out.opt (OptS.bind HN3.out.opt (OptS.ret _ _)))).yes.2, Qn.plain _ _ _ _ _ _ _ _ _ _ _ _ ⟨by omega, by omega⟩ ⟨HV1.out.1, by have := HV1.out; omega⟩ inU_0 ⟨HV3.out.1, by have := HV3.out; omega⟩ ⟨HV2.out.1, by have := HV2.out; omega⟩ inU_0 inU_0 (by omega)⟩, fun h => (by cases h)⟩⟩
 by_cases h5 : t = 5
 ·subst h5
  go_wp2_with fail
  refine (rnum_q rb _ m cap xs p1 ys1 true w3 HR3.out).mono ?_
  rintro e w4 ⟨hk, v1, q1, y1_, ok1, rfl, hr, hs⟩
  have HK4 : Hid (Below w.heap.size w w4) := Lib.hid (Keeps.below HK3.out hk HK3.out.size (fun k h => by have h2 := HGE.out; omega))
  have HZ4 := Lib.hid (hk.blk HZ3.out HNE.out.1)
  have HL4 := Lib.hid (hk.blk HL3.out HNE.out.2.2)
  have HR4 := Lib.hid hr
  have HN1 := Lib.hid hs
  have HV1 := Lib.hid hs.bd
  clear hk hr hs
  clear HR3 HK3 HZ3 HL3
  have x1 : w4.cell? ⟨fb, 1, none⟩ = some (.int .u64 0) := HL4.out.cell 1
  have y1 : w4.frozen? ⟨fb, 1, none⟩ = false := HL4.out.free 1
  go_wp2_with fail
  clear x1 y1
  refine calls_named ?_
  intro w5 hw5
  have hkk : Keeps (fun k => k = fb) w4 w5 := by rw [← hw5]; exact ((Keeps.refl (fun k => k = fb) w4).put 1 (.int .u64 v1))
  have HL5 : Hid (Blk w5 fb #[.int .u64 5, .int .u64 v1, .int .u64 0, .bool false, .int .u64 0, .int .u64 0, .int .u64 0, .slice none 0 0, .slice none 0 0, .bool false, .bool false, .int .i64 0] 32) := Lib.hid (by rw [← hw5]; exact (HL4.out.set 1 (.int .u64 v1)).as rfl)
  have HR5 := Lib.hid (HR4.out.keep hkk (fun h => HNE.out.2.2 h.symm) (fun b hb h => by have h1 := HLT.out b hb; have h2 := HGE.out; omega))
  have HK5 : Hid (Below w.heap.size w w5) := Lib.hid (Keeps.below HK4.out hkk HK4.out.size (fun k h => by have h2 := HGE.out; omega))
  have HZ5 := Lib.hid (hkk.blk HZ4.out HNE.out.2.1)
  clear hkk hw5
  clear HR4 HK4 HZ4 HL4

  refine (rnum_q rb _ m cap xs q1 y1_ ok1 w5 HR5.out).mono ?_
  rintro e w6 ⟨hk, v2, q2, y2_, ok2, rfl, hr, hs⟩
  have HK6 : Hid (Below w.heap.size w w6) := Lib.hid (Keeps.below HK5.out hk HK5.out.size (fun k h => by have h2 := HGE.out; omega))
  have HZ6 := Lib.hid (hk.blk HZ5.out HNE.out.1)
  have HL6 := Lib.hid (hk.blk HL5.out HNE.out.2.2)
  have HR6 := Lib.hid hr
  have HN2 := Lib.hid hs
  have HV2 := Lib.hid hs.bd
  clear hk hr hs
  clear HR5 HK5 HZ5 HL5
  have x5 : w6.cell? ⟨fb, 5, none⟩ = some (.int .u64 0) := HL6.out.cell 5
  have y5 : w6.frozen? ⟨fb, 5, none⟩ = false := HL6.out.free 5
  go_wp2_with fail
  clear x5 y5
  have hkk : Keeps (fun k => k = fb) w6 (w6.setCell ⟨fb, 5, none⟩ (.int .u64 v2)) := ((Keeps.refl (fun k => k = fb) w6).put 5 (.int .u64 v2))
  have HL7 : Hid (Blk (w6.setCell ⟨fb, 5, none⟩ (.int .u64 v2)) fb #[.int .u64 5, .int .u64 v1, .int .u64 0, .bool false, .int .u64 0, .int .u64 v2, .int .u64 0, .slice none 0 0, .slice none 0 0, .bool false, .bool false, .int .i64 0] 32) := Lib.hid ((HL6.out.set 5 (.int .u64 v2)).as rfl)
  have HR7 := Lib.hid (HR6.out.keep hkk (fun h => HNE.out.2.2 h.symm) (fun b hb h => by have h1 := HLT.out b hb; have h2 := HGE.out; omega))
  have HK7 := Lib.hid (Keeps.below HK6.out hkk HK6.out.size (fun k h => by have h2 := HGE.out; omega))
  have HZ7 := Lib.hid (hkk.blk HZ6.out HNE.out.2.1)
  go_meet
  cases ok2 with
  | false => exact ⟨HZ7.out, HK7.out, .inr ⟨rfl, false, (⟨⟨5, v1, 0, false, 0, v2, 0, [], [], false, false, 0⟩, none, 0, 0, none, 0, 0⟩ : Qf), q2, y2_, HL7.out, HR7.out, fun h => (by cases h), fun _ => by rw [← HDD.out]; exact (show OptS true (stoD ys1) (⟨5, v1, 0, false, 0, v2, 0, [], [], false, false, 0⟩) _ _ from by unfold stoD; exact OptS.bind HN1.out.opt (OptS.bind HN2.out.opt (OptS.ret _ _))).no⟩⟩
  | true => exact ⟨HZ7.out, HK7.out, .inr ⟨rfl, true, (⟨⟨5, v1, 0, false, 0, v2, 0, [], [], false, false, 0⟩, none, 0, 0, none, 0, 0⟩ : Qf), q2, y2_, HL7.out, HR7.out, fun _ => ⟨by rw [← HDD.out]; exact (show OptS true (stoD ys1) (⟨5, v1, 0, false, 0, v2, 0, [], [], false, false, 0⟩) _ _ from by unfold stoD; exact OptS.bind HN1.out.opt (OptS.bind HN2.out.opt (OptS.ret _ _))).yes.2, Qn.plain _ _ _ _ _ _ _ _ _ _ _ _ ⟨by omega, by omega⟩ ⟨HV1.out.1, by have := HV1.out; omega⟩ inU_0 inU_0 ⟨HV2.out.1, by have := HV2.out; omega⟩ inU_0 inU_0 (by omega)⟩, fun h => (by cases h)⟩⟩
 by_cases h6 : t = 6
 ·subst h6
  go_wp2_with fail
  refine (rnum_q rb _ m cap xs p1 ys1 true w3 HR3.out).mono ?_
  rintro e w4 ⟨hk, v1, q1, y1_, ok1, rfl, hr, hs⟩
  have HK4 : Hid (Below w.heap.size w w4) := Lib.hid (Keeps.below HK3.out hk HK3.out.size (fun k h => by have h2 := HGE.out; omega))
  have HZ4 := Lib.hid (hk.blk HZ3.out HNE.out.1)
  have HL4 := Lib.hid (hk.blk HL3.out HNE.out.2.2)
  have HR4 := Lib.hid hr
  have HN1 := Lib.hid hs
  have HV1 := Lib.hid hs.bd
  clear hk hr hs
  clear HR3 HK3 HZ3 HL3
  have x2 : w4.cell? ⟨fb, 2, none⟩ = some (.int .u64 0) := HL4.out.cell 2
  have y2 : w4.frozen? ⟨fb, 2, none⟩ = false := HL4.out.free 2
  go_wp2_with fail
  clear x2 y2
  refine calls_named ?_
  intro w5 hw5
  have hkk : Keeps (fun k => k = fb) w4 w5 := by rw [← hw5]; exact ((Keeps.refl (fun k => k = fb) w4).put 2 (.int .u64 v1))
  have HL5 : Hid (Blk w5 fb #[.int .u64 6, .int .u64 0, .int .u64 v1, .bool false, .int .u64 0, .int .u64 0, .int .u64 0, .slice none 0 0, .slice none 0 0, .bool false, .bool false, .int .i64 0] 32) := Lib.hid (by rw [← hw5]; exact (HL4.out.set 2 (.int .u64 v1)).as rfl)
  have HR5 := Lib.hid (HR4.out.keep hkk (fun h => HNE.out.2.2 h.symm) (fun b hb h => by have h1 := HLT.out b hb; have h2 := HGE.out; omega))
  have HK5 : Hid (Below w.heap.size w w5) := Lib.hid (Keeps.below HK4.out hkk HK4.out.size (fun k h => by have h2 := HGE.out; omega))
  have HZ5 := Lib.hid (hkk.blk HZ4.out HNE.out.2.1)
  clear hkk hw5
  clear HR4 HK4 HZ4 HL4
  refine (rnum_q rb _ m cap xs q1 y1_ ok1 w5 HR5.out).mono ?_
  rintro e w6 ⟨hk, v2, q2, y2_, ok2, rfl, hr, hs⟩
  have HK6 : Hid (Below w.heap.size w w6) := Lib.hid (Keeps.below HK5.out hk HK5.out.size (fun k h => by have h2 := HGE.out; omega))
  have HZ6 := Lib.hid (hk.blk HZ5.out HNE.out.1)
  have HL6 := Lib.hid (hk.blk HL5.out HNE.out.2.2)
  have HR6 := Lib.hid hr
  have HN2 := Lib.hid hs
  have HV2 := Lib.hid hs.bd
  clear hk hr hs
  clear HR5 HK5 HZ5 HL5
  obtain ⟨K2, hK⟩ : ∃ K : Nat, v2 = (K : Int) := ⟨v2.toNat, by have := HV2.out; omega⟩
  have HKK2 := Lib.hid hK
  subst hK
  have hvo := HV1.out
  by_cases hg : (K2 : Int) ≤ 4611686018427387903 - v1
  rotate_left
  ·have x2 : w6.cell? ⟨fb, 2, none⟩ = some (.int .u64 v1) := HL6.out.cell 2
   have hgd : decide ((K2 : Int) ≤ 4611686018427387903 - v1) = false := decide_eq_false hg
   have HG : Hid (endB (v1) K2 = false) := Lib.hid (by rw [endG _ _ (by omega)]; exact hgd)
   go_wp2_with fail
   clear x2 hgd hg
   refine (rcut_q rb _ m cap xs q2 y2_ ok2 K2 w6 HR6.out (by have := HV2.out; omega)).mono ?_
   rintro e w7 ⟨hk, a8, n8, c8, bs, q3, y3_, ok3, rfl, ho, hr, hs⟩
   have HK7 : Hid (Below w.heap.size w w7) := Lib.hid (Keeps.below HK6.out hk HK6.out.size (fun k h => by have h2 := HGE.out; omega))
   have HZ7 := Lib.hid (hk.blk HZ6.out HNE.out.1)
   have HL7 := Lib.hid (hk.blk HL6.out HNE.out.2.2)
   have HR7 := Lib.hid hr
   have HO7 : Hid (Bo w6.heap.size w7 a8 n8 c8 bs) := Lib.hid ho
   have HOB : Hid (fb < w6.heap.size ∧ rs < w6.heap.size) := Lib.hid ⟨HL6.out.lt, HZ6.out.lt⟩
   have HOW : Hid (w.heap.size ≤ w6.heap.size) := Lib.hid HK6.out.size
   have HC3 := Lib.hid hs
   clear hk hr hs ho
   clear HR6 HK6 HZ6 HL6
   have x8 : w7.cell? ⟨fb, 8, none⟩ = some (.slice none 0 0) := HL7.out.cell 8
   have y8 : w7.frozen? ⟨fb, 8, none⟩ = false := HL7.out.free 8
   go_wp2_with fail
   clear x8 y8
   have hkk : Keeps (fun k => k = fb) w7 (w7.setCell ⟨fb, 8, none⟩ (.slice a8 n8 c8)) := ((Keeps.refl (fun k => k = fb) w7).put 8 (.slice a8 n8 c8))
   have HL8 : Hid (Blk (w7.setCell ⟨fb, 8, none⟩ (.slice a8 n8 c8)) fb #[.int .u64 6, .int .u64 0, .int .u64 v1, .bool false, .int .u64 0, .int .u64 0, .int .u64 0, .slice none 0 0, .slice a8 n8 c8, .bool false, .bool false, .int .i64 0] 32) := Lib.hid ((HL7.out.set 8 (.slice a8 n8 c8)).as rfl)
   have HR8 := Lib.hid (HR7.out.keep hkk (fun h => HNE.out.2.2 h.symm) (fun b hb h => by have h1 := HLT.out b hb; have h2 := HGE.out; omega))
   have HK8 := Lib.hid (Keeps.below HK7.out hkk HK7.out.size (fun k h => by have h2 := HGE.out; omega))
   have HZ8 := Lib.hid (hkk.blk HZ7.out HNE.out.2.1)
   have HOF := (HO7.out.keep hkk (fun b hb h => by have h1 := (HO7.out.ge b hb).1; have h2 := HOB.out; omega)).mono HOB.out.1
   go_meet
   exact ⟨HZ8.out, HK8.out, .inl ⟨rfl, by rw [← HDD.out]; exact (show OptS true (decT _ ys1) (⟨6, 0, v1, false, 0, 0, 0, [], bs, false, false, 0⟩) ys1 false from (by show OptS true (cryD ys1) _ _ _; unfold cryD; exact OptS.bind HN1.out.opt (OptS.noB _ _ (OptS.ptx HN2.out HC3.out rfl) (fun h => if_neg (by rw [HC3.out.len h, HG.out]; decide))))).no⟩⟩
  have x2 : w6.cell? ⟨fb, 2, none⟩ = some (.int .u64 v1) := HL6.out.cell 2
  have hgd : decide ((K2 : Int) ≤ 4611686018427387903 - v1) = true := decide_eq_true hg
  have HG : Hid (endB (v1) K2 = true) := Lib.hid (by rw [endG _ _ (by omega)]; exact hgd)
  go_wp2_with fail
  clear x2 hgd hg
  refine (rcut_q rb _ m cap xs q2 y2_ ok2 K2 w6 HR6.out (by have := HV2.out; omega)).mono ?_
  rintro e w7 ⟨hk, a8, n8, c8, bs, q3, y3_, ok3, rfl, ho, hr, hs⟩
  have HK7 : Hid (Below w.heap.size w w7) := Lib.hid (Keeps.below HK6.out hk HK6.out.size (fun k h => by have h2 := HGE.out; omega))
  have HZ7 := Lib.hid (hk.blk HZ6.out HNE.out.1)
  have HL7 := Lib.hid (hk.blk HL6.out HNE.out.2.2)
  have HR7 := Lib.hid hr
  have HO7 : Hid (Bo w6.heap.size w7 a8 n8 c8 bs) := Lib.hid ho
  have HOB : Hid (fb < w6.heap.size ∧ rs < w6.heap.size) := Lib.hid ⟨HL6.out.lt, HZ6.out.lt⟩
  have HOW : Hid (w.heap.size ≤ w6.heap.size) := Lib.hid HK6.out.size
  have HC3 := Lib.hid hs
  clear hk hr hs ho
  clear HR6 HK6 HZ6 HL6
  have x8 : w7.cell? ⟨fb, 8, none⟩ = some (.slice none 0 0) := HL7.out.cell 8
  have y8 : w7.frozen? ⟨fb, 8, none⟩ = false := HL7.out.free 8
  go_wp2_with fail
  clear x8 y8
  have hkk : Keeps (fun k => k = fb) w7 (w7.setCell ⟨fb, 8, none⟩ (.slice a8 n8 c8)) := ((Keeps.refl (fun k => k = fb) w7).put 8 (.slice a8 n8 c8))
  have HL8 : Hid (Blk (w7.setCell ⟨fb, 8, none⟩ (.slice a8 n8 c8)) fb #[.int .u64 6, .int .u64 0, .int .u64 v1, .bool false, .int .u64 0, .int .u64 0, .int .u64 0, .slice none 0 0, .slice a8 n8 c8, .bool false, .bool false, .int .i64 0] 32) := Lib.hid ((HL7.out.set 8 (.slice a8 n8 c8)).as rfl)
  have HR8 := Lib.hid (HR7.out.keep hkk (fun h => HNE.out.2.2 h.symm) (fun b hb h => by have h1 := HLT.out b hb; have h2 := HGE.out; omega))
  have HK8 := Lib.hid (Keeps.below HK7.out hkk HK7.out.size (fun k h => by have h2 := HGE.out; omega))
  have HZ8 := Lib.hid (hkk.blk HZ7.out HNE.out.2.1)
  have HOF := (HO7.out.keep hkk (fun b hb h => by have h1 := (HO7.out.ge b hb).1; have h2 := HOB.out; omega)).mono HOB.out.1
  go_meet
  cases ok3 with
  | false => exact ⟨HZ8.out, HK8.out, .inr ⟨rfl, false, (⟨⟨6, 0, v1, false, 0, 0, 0, [], bs, false, false, 0⟩, none, 0, 0, a8, n8, c8⟩ : Qf), q3, y3_, HL8.out, HR8.out, fun h => (by cases h), fun _ => by rw [← HDD.out]; exact (show OptS true (decT _ ys1) (⟨6, 0, v1, false, 0, 0, 0, [], bs, false, false, 0⟩) _ _ from (by show OptS true (cryD ys1) _ _ _; unfold cryD; exact OptS.bind HN1.out.opt (OptS.bind (OptS.ptx HN2.out HC3.out rfl) (OptS.ite _ _ (fun h => by rw [HC3.out.len h]; exact HG.out))))).no⟩⟩
  | true => exact ⟨HZ8.out, HK8.out, .inr ⟨rfl, true, (⟨⟨6, 0, v1, false, 0, 0, 0, [], bs, false, false, 0⟩, none, 0, 0, a8, n8, c8⟩ : Qf), q3, y3_, HL8.out, HR8.out, fun _ => ⟨by rw [← HDD.out]; exact (show OptS true (decT _ ys1) (⟨6, 0, v1, false, 0, 0, 0, [], bs, false, false, 0⟩) _ _ from (by show OptS true (cryD ys1) _ _ _; unfold cryD; exact OptS.bind HN1.out.opt (OptS.bind (OptS.ptx HN2.out HC3.out rfl) (OptS.ite _ _ (fun h => by rw [HC3.out.len h]; exact HG.out))))).yes.2, Qn.bytes _ _ _ _ _ _ _ _ _ _ ⟨by omega, by omega⟩ inU_0 ⟨HV1.out.1, by have := HV1.out; omega⟩ inU_0 inU_0 _ _ _ _ HOF⟩, fun h => (by cases h)⟩⟩
 by_cases h7 : t = 7
 ·subst h7
  go_wp2_with fail
  refine (rnum_q rb _ m cap xs p1 ys1 true w3 HR3.out).mono ?_
  rintro e w4 ⟨hk, v1, q1, y1_, ok1, rfl, hr, hs⟩
  have HK4 : Hid (Below w.heap.size w w4) := Lib.hid (Keeps.below HK3.out hk HK3.out.size (fun k h => by have h2 := HGE.out; omega))
  have HZ4 := Lib.hid (hk.blk HZ3.out HNE.out.1)
  have HL4 := Lib.hid (hk.blk HL3.out HNE.out.2.2)
  have HR4 := Lib.hid hr
  have HN1 := Lib.hid hs
  have HV1 := Lib.hid hs.bd
  clear hk hr hs
  clear HR3 HK3 HZ3 HL3
  obtain ⟨K1, hK⟩ : ∃ K : Nat, v1 = (K : Int) := ⟨v1.toNat, by have := HV1.out; omega⟩
  have HKK1 := Lib.hid hK
  subst hK
  by_cases hg : 0 < K1
  rotate_left
  ·have hgd : decide ((0 : Int) < (K1 : Int)) = false := by simp; omega
   have hgd2 : decide (0 < K1) = false := by simp; omega
   have HG := Lib.hid hg
   go_wp2_with fail
   clear hgd hgd2 hg
   refine (rcut_q rb _ m cap xs q1 y1_ ok1 K1 w4 HR4.out (by have := HV1.out; omega)).mono ?_
   rintro e w5 ⟨hk, a8, n8, c8, bs, q2, y2_, ok2, rfl, ho, hr, hs⟩
   have HK5 : Hid (Below w.heap.size w w5) := Lib.hid (Keeps.below HK4.out hk HK4.out.size (fun k h => by have h2 := HGE.out; omega))
   have HZ5 := Lib.hid (hk.blk HZ4.out HNE.out.1)
   have HL5 := Lib.hid (hk.blk HL4.out HNE.out.2.2)
   have HR5 := Lib.hid hr
   have HO5 : Hid (Bo w4.heap.size w5 a8 n8 c8 bs) := Lib.hid ho
   have HOB : Hid (fb < w4.heap.size ∧ rs < w4.heap.size) := Lib.hid ⟨HL4.out.lt, HZ4.out.lt⟩
   have HOW : Hid (w.heap.size ≤ w4.heap.size) := Lib.hid HK4.out.size
   have HC2 := Lib.hid hs
   clear hk hr hs ho
   clear HR4 HK4 HZ4 HL4
   have x8 : w5.cell? ⟨fb, 8, none⟩ = some (.slice none 0 0) := HL5.out.cell 8
   have y8 : w5.frozen? ⟨fb, 8, none⟩ = false := HL5.out.free 8
   go_wp2_with fail
   clear x8 y8
   have hkk : Keeps (fun k => k = fb) w5 (w5.setCell ⟨fb, 8, none⟩ (.slice a8 n8 c8)) := ((Keeps.refl (fun k => k = fb) w5).put 8 (.slice a8 n8 c8))
   have HL6 : Hid (Blk (w5.setCell ⟨fb, 8, none⟩ (.slice a8 n8 c8)) fb #[.int .u64 7, .int .u64 0, .int .u64 0, .bool false, .int .u64 0, .int .u64 0, .int .u64 0, .slice none 0 0, .slice a8 n8 c8, .bool false, .bool false, .int .i64 0] 32) := Lib.hid ((HL5.out.set 8 (.slice a8 n8 c8)).as rfl)
   have HR6 := Lib.hid (HR5.out.keep hkk (fun h => HNE.out.2.2 h.symm) (fun b hb h => by have h1 := HLT.out b hb; have h2 := HGE.out; omega))
   have HK6 := Lib.hid (Keeps.below HK5.out hkk HK5.out.size (fun k h => by have h2 := HGE.out; omega))
   have HZ6 := Lib.hid (hkk.blk HZ5.out HNE.out.2.1)
   have HOF := (HO5.out.keep hkk (fun b hb h => by have h1 := (HO5.out.ge b hb).1; have h2 := HOB.out; omega)).mono HOB.out.1
   go_meet
   exact ⟨HZ6.out, HK6.out, .inl ⟨rfl, by rw [← HDD.out]; exact (show OptS true (tokD ys1) (⟨7, 0, 0, false, 0, 0, 0, [], bs, false, false, 0⟩) ys1 false from by unfold tokD; exact OptS.noB _ _ (OptS.ptx HN1.out HC2.out rfl) (fun h => if_neg (by rw [HC2.out.len h]; have h2 := HG.out; omega))).no⟩⟩
  have hgd : decide ((0 : Int) < (K1 : Int)) = true := by simp; omega
  have hgd2 : decide (0 < K1) = true := by simp; omega
  have HG := Lib.hid hg
  go_wp2_with fail
  clear hgd hgd2 hg
  refine (rcut_q rb _ m cap xs q1 y1_ ok1 K1 w4 HR4.out (by have := HV1.out; omega)).mono ?_
  rintro e w5 ⟨hk, a8, n8, c8, bs, q2, y2_, ok2, rfl, ho, hr, hs⟩
  have HK5 : Hid (Below w.heap.size w w5) := Lib.hid (Keeps.below HK4.out hk HK4.out.size (fun k h => by have h2 := HGE.out; omega))
  have HZ5 := Lib.hid (hk.blk HZ4.out HNE.out.1)
  have HL5 := Lib.hid (hk.blk HL4.out HNE.out.2.2)
  have HR5 := Lib.hid hr
  have HO5 : Hid (Bo w4.heap.size w5 a8 n8 c8 bs) := Lib.hid ho
  have HOB : Hid (fb < w4.heap.size ∧ rs < w4.heap.size) := Lib.hid ⟨HL4.out.lt, HZ4.out.lt⟩
  have HOW : Hid (w.heap.size ≤ w4.heap.size) := Lib.hid HK4.out.size
  have HC2 := Lib.hid hs
  clear hk hr hs ho
  clear HR4 HK4 HZ4 HL4
  have x8 : w5.cell? ⟨fb, 8, none⟩ = some (.slice none 0 0) := HL5.out.cell 8
  have y8 : w5.frozen? ⟨fb, 8, none⟩ = false := HL5.out.free 8
  go_wp2_with fail
  clear x8 y8
  have hkk : Keeps (fun k => k = fb) w5 (w5.setCell ⟨fb, 8, none⟩ (.slice a8 n8 c8)) := ((Keeps.refl (fun k => k = fb) w5).put 8 (.slice a8 n8 c8))
  have HL6 : Hid (Blk (w5.setCell ⟨fb, 8, none⟩ (.slice a8 n8 c8)) fb #[.int .u64 7, .int .u64 0, .int .u64 0, .bool false, .int .u64 0, .int .u64 0, .int .u64 0, .slice none 0 0, .slice a8 n8 c8, .bool false, .bool false, .int .i64 0] 32) := Lib.hid ((HL5.out.set 8 (.slice a8 n8 c8)).as rfl)
  have HR6 := Lib.hid (HR5.out.keep hkk (fun h => HNE.out.2.2 h.symm) (fun b hb h => by have h1 := HLT.out b hb; have h2 := HGE.out; omega))
  have HK6 := Lib.hid (Keeps.below HK5.out hkk HK5.out.size (fun k h => by have h2 := HGE.out; omega))
  have HZ6 := Lib.hid (hkk.blk HZ5.out HNE.out.2.1)
  have HOF := (HO5.out.keep hkk (fun b hb h => by have h1 := (HO5.out.ge b hb).1; have h2 := HOB.out; omega)).mono HOB.out.1
  go_meet
  cases ok2 with
  | false => exact ⟨HZ6.out, HK6.out, .inr ⟨rfl, false, (⟨⟨7, 0, 0, false, 0, 0, 0, [], bs, false, false, 0⟩, none, 0, 0, a8, n8, c8⟩ : Qf), q2, y2_, HL6.out, HR6.out, fun h => (by cases h), fun _ => by rw [← HDD.out]; exact (show OptS true (tokD ys1) (⟨7, 0, 0, false, 0, 0, 0, [], bs, false, false, 0⟩) _ _ from by unfold tokD; exact OptS.bind (OptS.ptx HN1.out HC2.out rfl) (OptS.ite _ _ (fun h => by rw [HC2.out.len h]; have h2 := HG.out; omega))).no⟩⟩
  | true => exact ⟨HZ6.out, HK6.out, .inr ⟨rfl, true, (⟨⟨7, 0, 0, false, 0, 0, 0, [], bs, false, false, 0⟩, none, 0, 0, a8, n8, c8⟩ : Qf), q2, y2_, HL6.out, HR6.out, fun _ => ⟨by rw [← HDD.out]; exact (show OptS true (tokD ys1) (⟨7, 0, 0, false, 0, 0, 0, [], bs, false, false, 0⟩) _ _ from by unfold tokD; exact OptS.bind (OptS.ptx HN1.out HC2.out rfl) (OptS.ite _ _ (fun h => by rw [HC2.out.len h]; have h2 := HG.out; omega))).yes.2, Qn.bytes _ _ _ _ _ _ _ _ _ _ ⟨by omega, by omega⟩ inU_0 inU_0 inU_0 inU_0 _ _ _ _ HOF⟩, fun h => (by cases h)⟩⟩
 have e1 : (t == 1) = false := by simp; omega
 have e30 : (t == 30) = false := by simp; omega
 have e2 : (t == 2) = false := by simp; omega
 have e4 : (t == 4) = false := by simp; omega
 have e5 : (t == 5) = false := by simp; omega
 have e6 : (t == 6) = false := by simp; omega
 have e7 : (t == 7) = false := by simp; omega
 have e16 : (t == 16) = false := by simp; omega
 have e20 : (t == 20) = false := by simp; omega
 have e17 : (t == 17) = false := by simp; omega
 have e21 : (t == 21) = false := by simp; omega
 have e18 : (t == 18) = false := by simp; omega
 have e19 : (t == 19) = false := by simp; omega
 have e22 : (t == 22) = false := by simp; omega
 have e23 : (t == 23) = false := by simp; omega
 have e24 : (t == 24) = false := by simp; omega
 have e25 : (t == 25) = false := by simp; omega
 have e26 : (t == 26) = false := by simp; omega
 have e27 : (t == 27) = false := by simp; omega
 have e28 : (t == 28) = false := by simp; omega
 have e29 : (t == 29) = false := by simp; omega
 have HT0 : Hid (decT t ys1 = none) := Lib.hid (decT_none _ (by omega))
 have g1 : decide ((8 : Int) ≤ t) = false := decide_eq_false (by omega)
 go_wp2_with fail
 go_meet
 exact ⟨HZ3.out, HK3.out, .inl ⟨rfl, by rw [← HDD.out]; exact HT0.out⟩⟩

end Go.Proofs.Ytgfkgmmigbpciaa
