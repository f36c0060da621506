/- ReadFrame of the package bifoldref17: some types. -/
import Derived.Test.YtgfkgmmigbpciaaQrU
namespace Go.Proofs.Ytgfkgmmigbpciaa
set_option linter.unusedSimpArgs false
set_option linter.unusedVariables false
open Go.RowKit Go.Deep

set_option maxRecDepth 100000 in
set_option maxHeartbeats 100000000 in
theorem rt_d1 {ba off m cap : Nat} {xs ys1 : List UInt8} {t C V : Int} {p1 rs rb fb : Nat} {DD : Option (Qc × List UInt8)} {w w3 : World} (F : RfF ba off m cap xs ys1 t p1 rs rb fb DD w w3) (ht : 24 ≤ t ∧ t < 26) : rfR.1 ba off m cap xs ys1 t C V p1 rs rb fb DD w w3 := by
 have HLT := Lib.hid F.lt
 have HM := Lib.hid F.hm
 have HDD := Lib.hid F.dd
 have HR3 := Lib.hid F.r
 have HK3 := Lib.hid F.k
 have HZ3 := Lib.hid F.z
 have HL3 := Lib.hid F.l
 have HGE := Lib.hid F.ge
 have HNE := Lib.hid F.ne
 clear F
 intro J K' hJ hK
 by_cases h24 : t = 24
 ·subst h24
  go_wp2_with fail
  refine (rnum_q rb _ m cap xs p1 ys1 true w3 HR3.out).mono ?_
  rintro e w4 ⟨hk, v1, q1, y1_, ok1, rfl, hr, hs⟩
  have HK4 : Hid (Below w.heap.size w w4) := Lib.hid (Keeps.below HK3.out hk HK3.out.size (fun k h => by have h2 := HGE.out; omega))
  have HZ4 := Lib.hid (hk.blk HZ3.out HNE.out.1)
  have HL4 := Lib.hid (hk.blk HL3.out HNE.out.2.2)
  have HR4 := Lib.hid hr
  have HN1 := Lib.hid hs
  have HV1 := Lib.hid hs.bd
  clear hk hr hs
  clear HR3 HK3 HZ3 HL3
  have x1 : w4.cell? ⟨fb, 1, none⟩ = some (.int .u64 0) := HL4.out.cell 1
  have y1 : w4.frozen? ⟨fb, 1, none⟩ = false := HL4.out.free 1
  go_wp2_with fail
  clear x1 y1
  refine calls_named ?_
  intro w5 hw5
  have hkk : Keeps (fun k => k = fb) w4 w5 := by rw [← hw5]; exact ((Keeps.refl (fun k => k = fb) w4).put 1 (.int .u64 v1))
  have HL5 : Hid (Blk w5 fb #[.int .u64 24, .int .u64 v1, .int .u64 0, .bool false, .int .u64 0, .int .u64 0, .int .u64 0, .slice none 0 0, .slice none 0 0, .bool false, .bool false, .int .i64 0] 32) := Lib.hid (by rw [← hw5]; exact (HL4.out.set 1 (.int .u64 v1)).as rfl)
  have HR5 := Lib.hid (HR4.out.keep hkk (fun h => HNE.out.2.2 h.symm) (fun b hb h => by have h1 := HLT.out b hb; have h2 := HGE.out; omega))
  have HK5 : Hid (Below w.heap.size w w5) := Lib.hid (Keeps.below HK4.out hkk HK4.out.size (fun k h => by have h2 := HGE.out; omega))
  have HZ5 := Lib.hid (hkk.blk HZ4.out HNE.out.2.1)
  clear hkk hw5
  clear HR4 HK4 HZ4 HL4
  refine (rnum_q rb _ m cap xs q1 y1_ ok1 w5 HR5.out).mono ?_
  rintro e w6 ⟨hk, v2, q2, y2_, ok2, rfl, hr, hs⟩
  have HK6 : Hid (Below w.heap.size w w6) := Lib.hid (Keeps.below HK5.out hk HK5.out.size (fun k h => by have h2 := HGE.out; omega))
  have HZ6 := Lib.hid (hk.blk HZ5.out HNE.out.1)
  have HL6 := Lib.hid (hk.blk HL5.out HNE.out.2.2)
  have HR6 := Lib.hid hr
  have HN2 := Lib.hid hs
  have HV2 := Lib.hid hs.bd
  clear hk hr hs
  clear HR5 HK5 HZ5 HL5
  have x4 : w6.cell? ⟨fb, 4, none⟩ = some (.int .u64 0) := HL6.out.cell 4
  have y4 : w6.frozen? ⟨fb, 4, none⟩ = false := HL6.out.free 4
  go_wp2_with fail
  clear x4 y4
  refine calls_named ?_
  intro w7 hw7
  have hkk : Keeps (fun k => k = fb) w6 w7 := by rw [← hw7]; exact ((Keeps.refl (fun k => k = fb) w6).put 4 (.int .u64 v2))
  have HL7 : Hid (Blk w7 fb #[.int .u64 24, .int .u64 v1, .int .u64 0, .bool false, .int .u64 v2, .int .u64 0, .int .u64 0, .slice none 0 0, .slice none 0 0, .bool false, .bool false, .int .i64 0] 32) := Lib.hid (by rw [← hw7]; exact (HL6.out.set 4 (.int .u64 v2)).as rfl)
  have HR7 := Lib.hid (HR6.out.keep hkk (fun h => HNE.out.2.2 h.symm) (fun b hb h => by have h1 := HLT.out b hb; have h2 := HGE.out; omega))
  have HK7 : Hid (Below w.heap.size w w7) := Lib.hid (Keeps.below HK6.out hkk HK6.out.size (fun k h => by have h2 := HGE.out; omega))
  have HZ7 := Lib.hid (hkk.blk HZ6.out HNE.out.2.1)
  clear hkk hw7
  clear HR6 HK6 HZ6 HL6
  refine (rcut_q rb _ m cap xs q2 y2_ ok2 1 w7 HR7.out (by omega)).mono ?_
  rintro e w8 ⟨hk, a8, n8, c8, bs, q3, y3_, ok3, rfl, ho, hr, hs⟩
  have HK8 : Hid (Below w.heap.size w w8) := Lib.hid (Keeps.below HK7.out hk HK7.out.size (fun k h => by have h2 := HGE.out; omega))
  have HZ8 := Lib.hid (hk.blk HZ7.out HNE.out.1)
  have HL8 := Lib.hid (hk.blk HL7.out HNE.out.2.2)
  have HR8 := Lib.hid hr
  have HO8 : Hid (Bo w7.heap.size w8 a8 n8 c8 bs) := Lib.hid ho
  have HOB : Hid (fb < w7.heap.size ∧ rs < w7.heap.size) := Lib.hid ⟨HL7.out.lt, HZ7.out.lt⟩
  have HOW : Hid (w.heap.size ≤ w7.heap.size) := Lib.hid HK7.out.size
  have HC3 := Lib.hid hs
  clear hk hr hs ho
  clear HR7 HK7 HZ7 HL7
  have hok : w8.cell? ⟨rb, 2, none⟩ = some (.bool ok3) := HR8.out.k.cells.1.2.2
  cases ok3 with
  | false =>
   go_wp2_with fail
   clear hok
   go_meet
   exact ⟨HZ8.out, HK8.out, .inl ⟨rfl, by rw [← HDD.out]; exact (show OptS true (nidD ys1) (⟨24, v1, 0, false, v2, 0, 0, [], [], false, false, 0⟩) ys1 false from by unfold nidD; exact OptS.bind HN1.out.opt (OptS.bind HN2.out.opt (OptS.noB _ _ HC3.out.opt (fun h => by cases h)))).no⟩⟩
  | true =>
   have hbl := HC3.out.len rfl
   have hn8 : n8 = 1 := by have h2 := HO8.out.1; omega
   obtain ⟨g, rfl, hg0, hg1, hcell, hfree⟩ := HO8.out.row (by omega)
   obtain ⟨cc, hcc⟩ : ∃ cc : UInt8, bs = [cc] := List.length_eq_one_iff.1 hbl
   subst hcc
   have ecc : w8.cell? ⟨g, 0, none⟩ = some (.int .u8 (cc.toNat : Int)) := hcell 0 (by simp)
   obtain ⟨N, hN⟩ : ∃ N : Nat, cc.toNat = N := ⟨_, rfl⟩
   have HN := Lib.hid hN
   have hN256 : N < 256 := by rw [← hN]; exact cc.toNat_lt
   rw [hN] at ecc
   subst hn8
   have hwu : IntKind.u64.wrap (N : Int) = (N : Int) := by rw [IntKind.wrap_u64]; omega
   obtain ⟨K, hK⟩ : ∃ K : Nat, (N : Int) + 16 = (K : Int) := ⟨N + 16, by omega⟩
   have HKN : Hid (N + 16 = K) := Lib.hid (by omega)
   have hwk : IntKind.u64.wrap (K : Int) = (K : Int) := by rw [IntKind.wrap_u64]; omega
   have HKB : Hid (K ≤ 1000) := Lib.hid (by omega)
   clear hcell hfree hg0 hg1 hN HO8 HOB HOW hbl
   have x1 : w8.cell? ⟨fb, 1, none⟩ = some (.int .u64 v1) := HL8.out.cell 1
   have x4 : w8.cell? ⟨fb, 4, none⟩ = some (.int .u64 v2) := HL8.out.cell 4
   by_cases h1 : v2 ≤ v1
   rotate_left
   ·have HNO : Hid (nidOK v1 v2 N = false) := Lib.hid (by unfold nidOK; simp only [Bool.and_eq_false_iff, decide_eq_false_iff_not]; omega)
    have d1 : decide (v2 ≤ v1) = false := by simp; omega
    go_wp2_with fail
    clear hok x1 x4 ecc
    go_meet
    exact ⟨HZ8.out, HK8.out, .inl ⟨rfl, by rw [← HDD.out]; exact (show OptS true (nidD ys1) (⟨24, v1, 0, false, v2, 0, 0, [], [], false, false, 0⟩) ys1 false from by unfold nidD; exact OptS.bind HN1.out.opt (OptS.bind HN2.out.opt (OptS.noB _ _ HC3.out.opt (fun h => if_neg (by rw [List.headD_cons, HN.out, HNO.out]; decide))))).no⟩⟩
   by_cases h2 : 1 ≤ N
   rotate_left
   ·have HNO : Hid (nidOK v1 v2 N = false) := Lib.hid (by unfold nidOK; simp only [Bool.and_eq_false_iff, decide_eq_false_iff_not]; omega)
    have d1 : decide (v2 ≤ v1) = true := by simp; omega
    have d2 : decide ((1 : Int) ≤ (N : Int)) = false := by simp; omega
    go_wp2_with fail
    clear hok x1 x4 ecc
    go_meet
    exact ⟨HZ8.out, HK8.out, .inl ⟨rfl, by rw [← HDD.out]; exact (show OptS true (nidD ys1) (⟨24, v1, 0, false, v2, 0, 0, [], [], false, false, 0⟩) ys1 false from by unfold nidD; exact OptS.bind HN1.out.opt (OptS.bind HN2.out.opt (OptS.noB _ _ HC3.out.opt (fun h => if_neg (by rw [List.headD_cons, HN.out, HNO.out]; decide))))).no⟩⟩
   by_cases h3 : N ≤ 20
   rotate_left
   ·have HNO : Hid (nidOK v1 v2 N = false) := Lib.hid (by unfold nidOK; simp only [Bool.and_eq_false_iff, decide_eq_false_iff_not]; omega)
    have d1 : decide (v2 ≤ v1) = true := by simp; omega
    have d2 : decide ((1 : Int) ≤ (N : Int)) = true := by simp; omega
    have d3 : decide ((N : Int) ≤ 20) = false := by simp; omega
    go_wp2_with fail
    clear hok x1 x4 ecc
    go_meet
    exact ⟨HZ8.out, HK8.out, .inl ⟨rfl, by rw [← HDD.out]; exact (show OptS true (nidD ys1) (⟨24, v1, 0, false, v2, 0, 0, [], [], false, false, 0⟩) ys1 false from by unfold nidD; exact OptS.bind HN1.out.opt (OptS.bind HN2.out.opt (OptS.noB _ _ HC3.out.opt (fun h => if_neg (by rw [List.headD_cons, HN.out, HNO.out]; decide))))).no⟩⟩
   have HNO : Hid (nidOK v1 v2 N = true) := Lib.hid (by unfold nidOK; simp; omega)
   have d1 : decide (v2 ≤ v1) = true := by simp; omega
   have d2 : decide ((1 : Int) ≤ (N : Int)) = true := by simp; omega
   have d3 : decide ((N : Int) ≤ 20) = true := by simp; omega
   go_wp2_with fail
   clear hok x1 x4 ecc d1 d2 d3 hwu hwk hK h1 h2 h3
   refine (rcut_q rb _ m cap xs q3 y3_ true K w8 HR8.out (by have := HKB.out; omega)).mono ?_
   rintro e w9 ⟨hk, a8, n8, c8, bs, q4, y4_, ok4, rfl, ho, hr, hs⟩
   have HK9 : Hid (Below w.heap.size w w9) := Lib.hid (Keeps.below HK8.out hk HK8.out.size (fun k h => by have h2 := HGE.out; omega))
   have HZ9 := Lib.hid (hk.blk HZ8.out HNE.out.1)
   have HL9 := Lib.hid (hk.blk HL8.out HNE.out.2.2)
   have HR9 := Lib.hid hr
   have HO9 : Hid (Bo w8.heap.size w9 a8 n8 c8 bs) := Lib.hid ho
   have HOB : Hid (fb < w8.heap.size ∧ rs < w8.heap.size) := Lib.hid ⟨HL8.out.lt, HZ8.out.lt⟩
   have HOW : Hid (w.heap.size ≤ w8.heap.size) := Lib.hid HK8.out.size
   have HC4 := Lib.hid hs
   clear hk hr hs ho
   clear HR8 HK8 HZ8 HL8
   have x8 : w9.cell? ⟨fb, 8, none⟩ = some (.slice none 0 0) := HL9.out.cell 8
   have y8 : w9.frozen? ⟨fb, 8, none⟩ = false := HL9.out.free 8
   go_wp2_with fail
   clear x8 y8
   have hkk : Keeps (fun k => k = fb) w9 (w9.setCell ⟨fb, 8, none⟩ (.slice a8 n8 c8)) := ((Keeps.refl (fun k => k = fb) w9).put 8 (.slice a8 n8 c8))
   have HL10 : Hid (Blk (w9.setCell ⟨fb, 8, none⟩ (.slice a8 n8 c8)) fb #[.int .u64 24, .int .u64 v1, .int .u64 0, .bool false, .int .u64 v2, .int .u64 0, .int .u64 0, .slice none 0 0, .slice a8 n8 c8, .bool false, .bool false, .int .i64 0] 32) := Lib.hid ((HL9.out.set 8 (.slice a8 n8 c8)).as rfl)
   have HR10 := Lib.hid (HR9.out.keep hkk (fun h => HNE.out.2.2 h.symm) (fun b hb h => by have h1 := HLT.out b hb; have h2 := HGE.out; omega))
   have HK10 := Lib.hid (Keeps.below HK9.out hkk HK9.out.size (fun k h => by have h2 := HGE.out; omega))
   have HZ10 := Lib.hid (hkk.blk HZ9.out HNE.out.2.1)
   have HOF := (HO9.out.keep hkk (fun b hb h => by have h1 := (HO9.out.ge b hb).1; have h2 := HOB.out; omega)).mono HOB.out.1
   go_meet
   cases ok4 with
   | false => exact ⟨HZ10.out, HK10.out, .inr ⟨rfl, false, (⟨⟨24, v1, 0, false, v2, 0, 0, [], bs, false, false, 0⟩, none, 0, 0, a8, n8, c8⟩ : Qf), q4, y4_, HL10.out, HR10.out, fun h => (by cases h), fun _ => by rw [← HDD.out]; exact (show OptS true (nidD ys1) (⟨24, v1, 0, false, v2, 0, 0, [], bs, false, false, 0⟩) y4_ _ from by unfold nidD; refine OptS.bind HN1.out.opt (OptS.bind HN2.out.opt (OptS.bind HC3.out.opt ?_)); rw [List.headD_cons, HN.out, if_pos HNO.out, HKN.out]; exact OptS.bind HC4.out.opt (OptS.ret _ _)).no⟩⟩
   | true => exact ⟨HZ10.out, HK10.out, .inr ⟨rfl, true, (⟨⟨24, v1, 0, false, v2, 0, 0, [], bs, false, false, 0⟩, none, 0, 0, a8, n8, c8⟩ : Qf), q4, y4_, HL10.out, HR10.out, fun _ => ⟨by rw [← HDD.out]; exact (show OptS true (nidD ys1) (⟨24, v1, 0, false, v2, 0, 0, [], bs, false, false, 0⟩) y4_ _ from by unfold nidD; refine OptS.bind HN1.out.opt (OptS.bind HN2.out.opt (OptS.bind HC3.out.opt ?_)); rw [List.headD_cons, HN.out, if_pos HNO.out, HKN.out]; exact OptS.bind HC4.out.opt (OptS.ret _ _)).yes.2, Qn.bytes _ _ _ _ _ _ _ _ _ _ ⟨by omega, by omega⟩ ⟨HV1.out.1, by have := HV1.out; omega⟩ inU_0 ⟨HV2.out.1, by have := HV2.out; omega⟩ inU_0 _ _ _ _ HOF⟩, fun h => (by cases h)⟩⟩
 by_cases h25 : t = 25
 ·subst h25
  go_wp2_with fail
  refine (rnum_q rb _ m cap xs p1 ys1 true w3 HR3.out).mono ?_
  rintro e w4 ⟨hk, v1, q1, y1_, ok1, rfl, hr, hs⟩
  have HK4 : Hid (Below w.heap.size w w4) := Lib.hid (Keeps.below HK3.out hk HK3.out.size (fun k h => by have h2 := HGE.out; omega))
  have HZ4 := Lib.hid (hk.blk HZ3.out HNE.out.1)
  have HL4 := Lib.hid (hk.blk HL3.out HNE.out.2.2)
  have HR4 := Lib.hid hr
  have HN1 := Lib.hid hs
  have HV1 := Lib.hid hs.bd
  clear hk hr hs
  clear HR3 HK3 HZ3 HL3
  have x1 : w4.cell? ⟨fb, 1, none⟩ = some (.int .u64 0) := HL4.out.cell 1
  have y1 : w4.frozen? ⟨fb, 1, none⟩ = false := HL4.out.free 1
  go_wp2_with fail
  clear x1 y1
  have hkk : Keeps (fun k => k = fb) w4 (w4.setCell ⟨fb, 1, none⟩ (.int .u64 v1)) := ((Keeps.refl (fun k => k = fb) w4).put 1 (.int .u64 v1))
  have HL5 : Hid (Blk (w4.setCell ⟨fb, 1, none⟩ (.int .u64 v1)) fb #[.int .u64 25, .int .u64 v1, .int .u64 0, .bool false, .int .u64 0, .int .u64 0, .int .u64 0, .slice none 0 0, .slice none 0 0, .bool false, .bool false, .int .i64 0] 32) := Lib.hid ((HL4.out.set 1 (.int .u64 v1)).as rfl)
  have HR5 := Lib.hid (HR4.out.keep hkk (fun h => HNE.out.2.2 h.symm) (fun b hb h => by have h1 := HLT.out b hb; have h2 := HGE.out; omega))
  have HK5 := Lib.hid (Keeps.below HK4.out hkk HK4.out.size (fun k h => by have h2 := HGE.out; omega))
  have HZ5 := Lib.hid (hkk.blk HZ4.out HNE.out.2.1)
  go_meet
  cases ok1 with
  | false => exact ⟨HZ5.out, HK5.out, .inr ⟨rfl, false, (⟨⟨25, v1, 0, false, 0, 0, 0, [], [], false, false, 0⟩, none, 0, 0, none, 0, 0⟩ : Qf), q1, y1_, HL5.out, HR5.out, fun h => (by cases h), fun _ => by rw [← HDD.out]; exact (show OptS true (retD ys1) (⟨25, v1, 0, false, 0, 0, 0, [], [], false, false, 0⟩) _ _ from by unfold retD; exact OptS.bind HN1.out.opt (OptS.ret _ _)).no⟩⟩
  | true => exact ⟨HZ5.out, HK5.out, .inr ⟨rfl, true, (⟨⟨25, v1, 0, false, 0, 0, 0, [], [], false, false, 0⟩, none, 0, 0, none, 0, 0⟩ : Qf), q1, y1_, HL5.out, HR5.out, fun _ => ⟨by rw [← HDD.out]; exact (show OptS true (retD ys1) (⟨25, v1, 0, false, 0, 0, 0, [], [], false, false, 0⟩) _ _ from by unfold retD; exact OptS.bind HN1.out.opt (OptS.ret _ _)).yes.2, Qn.plain _ _ _ _ _ _ _ _ _ _ _ _ ⟨by omega, by omega⟩ ⟨HV1.out.1, by have := HV1.out; omega⟩ inU_0 inU_0 inU_0 inU_0 inU_0 (by omega)⟩, fun h => (by cases h)⟩⟩
 omega

set_option maxRecDepth 100000 in
set_option maxHeartbeats 100000000 in
theorem rt_d2 {ba off m cap : Nat} {xs ys1 : List UInt8} {t C V : Int} {p1 rs rb fb : Nat} {DD : Option (Qc × List UInt8)} {w w3 : World} (F : RfF ba off m cap xs ys1 t p1 rs rb fb DD w w3) (ht : 26 ≤ t ∧ t < 28) : rfR.1 ba off m cap xs ys1 t C V p1 rs rb fb DD w w3 := by
 have HLT := Lib.hid F.lt
 have HM := Lib.hid F.hm
 have HDD := Lib.hid F.dd
 have HR3 := Lib.hid F.r
 have HK3 := Lib.hid F.k
 have HZ3 := Lib.hid F.z
 have HL3 := Lib.hid F.l
 have HGE := Lib.hid F.ge
 have HNE := Lib.hid F.ne
 clear F
 intro J K' hJ hK
 by_cases h26 : t = 26
 ·subst h26
  go_wp2_with fail
  refine (rcut_q rb _ m cap xs p1 ys1 true 8 w3 HR3.out (by omega)).mono ?_
  rintro e w4 ⟨hk, a8, n8, c8, bs, q1, y1_, ok1, rfl, ho, hr, hs⟩
  have HK4 : Hid (Below w.heap.size w w4) := Lib.hid (Keeps.below HK3.out hk HK3.out.size (fun k h => by have h2 := HGE.out; omega))
  have HZ4 := Lib.hid (hk.blk HZ3.out HNE.out.1)
  have HL4 := Lib.hid (hk.blk HL3.out HNE.out.2.2)
  have HR4 := Lib.hid hr
  have HO4 : Hid (Bo w3.heap.size w4 a8 n8 c8 bs) := Lib.hid ho
  have HOB : Hid (fb < w3.heap.size ∧ rs < w3.heap.size) := Lib.hid ⟨HL3.out.lt, HZ3.out.lt⟩
  have HOW : Hid (w.heap.size ≤ w3.heap.size) := Lib.hid HK3.out.size
  have HC1 := Lib.hid hs
  clear hk hr hs ho
  clear HR3 HK3 HZ3 HL3
  have x8 : w4.cell? ⟨fb, 8, none⟩ = some (.slice none 0 0) := HL4.out.cell 8
  have y8 : w4.frozen? ⟨fb, 8, none⟩ = false := HL4.out.free 8
  go_wp2_with fail
  clear x8 y8
  have hkk : Keeps (fun k => k = fb) w4 (w4.setCell ⟨fb, 8, none⟩ (.slice a8 n8 c8)) := ((Keeps.refl (fun k => k = fb) w4).put 8 (.slice a8 n8 c8))
  have HL5 : Hid (Blk (w4.setCell ⟨fb, 8, none⟩ (.slice a8 n8 c8)) fb #[.int .u64 26, .int .u64 0, .int .u64 0, .bool false, .int .u64 0, .int .u64 0, .int .u64 0, .slice none 0 0, .slice a8 n8 c8, .bool false, .bool false, .int .i64 0] 32) := Lib.hid ((HL4.out.set 8 (.slice a8 n8 c8)).as rfl)
  have HR5 := Lib.hid (HR4.out.keep hkk (fun h => HNE.out.2.2 h.symm) (fun b hb h => by have h1 := HLT.out b hb; have h2 := HGE.out; omega))
  have HK5 := Lib.hid (Keeps.below HK4.out hkk HK4.out.size (fun k h => by have h2 := HGE.out; omega))
  have HZ5 := Lib.hid (hkk.blk HZ4.out HNE.out.2.1)
  have HOF := (HO4.out.keep hkk (fun b hb h => by have h1 := (HO4.out.ge b hb).1; have h2 := HOB.out; omega)).mono HOB.out.1
  go_meet
  cases ok1 with
  | false => exact ⟨HZ5.out, HK5.out, .inr ⟨rfl, false, (⟨⟨26, 0, 0, false, 0, 0, 0, [], bs, false, false, 0⟩, none, 0, 0, a8, n8, c8⟩ : Qf), q1, y1_, HL5.out, HR5.out, fun h => (by cases h), fun _ => by rw [← HDD.out]; exact (show OptS true (chaD 26 ys1) (⟨26, 0, 0, false, 0, 0, 0, [], bs, false, false, 0⟩) _ _ from by unfold chaD; exact OptS.bind HC1.out.opt (OptS.ret _ _)).no⟩⟩
  | true => exact ⟨HZ5.out, HK5.out, .inr ⟨rfl, true, (⟨⟨26, 0, 0, false, 0, 0, 0, [], bs, false, false, 0⟩, none, 0, 0, a8, n8, c8⟩ : Qf), q1, y1_, HL5.out, HR5.out, fun _ => ⟨by rw [← HDD.out]; exact (show OptS true (chaD 26 ys1) (⟨26, 0, 0, false, 0, 0, 0, [], bs, false, false, 0⟩) _ _ from by unfold chaD; exact OptS.bind HC1.out.opt (OptS.ret _ _)).yes.2, Qn.bytes _ _ _ _ _ _ _ _ _ _ ⟨by omega, by omega⟩ inU_0 inU_0 inU_0 inU_0 _ _ _ _ HOF⟩, fun h => (by cases h)⟩⟩
 by_cases h27 : t = 27
 ·subst h27
  go_wp2_with fail
  refine (rcut_q rb _ m cap xs p1 ys1 true 8 w3 HR3.out (by omega)).mono ?_
  rintro e w4 ⟨hk, a8, n8, c8, bs, q1, y1_, ok1, rfl, ho, hr, hs⟩
  have HK4 : Hid (Below w.heap.size w w4) := Lib.hid (Keeps.below HK3.out hk HK3.out.size (fun k h => by have h2 := HGE.out; omega))
  have HZ4 := Lib.hid (hk.blk HZ3.out HNE.out.1)
  have HL4 := Lib.hid (hk.blk HL3.out HNE.out.2.2)
  have HR4 := Lib.hid hr
  have HO4 : Hid (Bo w3.heap.size w4 a8 n8 c8 bs) := Lib.hid ho
  have HOB : Hid (fb < w3.heap.size ∧ rs < w3.heap.size) := Lib.hid ⟨HL3.out.lt, HZ3.out.lt⟩
  have HOW : Hid (w.heap.size ≤ w3.heap.size) := Lib.hid HK3.out.size
  have HC1 := Lib.hid hs
  clear hk hr hs ho
  clear HR3 HK3 HZ3 HL3
  have x8 : w4.cell? ⟨fb, 8, none⟩ = some (.slice none 0 0) := HL4.out.cell 8
  have y8 : w4.frozen? ⟨fb, 8, none⟩ = false := HL4.out.free 8
  go_wp2_with fail
  clear x8 y8
  have hkk : Keeps (fun k => k = fb) w4 (w4.setCell ⟨fb, 8, none⟩ (.slice a8 n8 c8)) := ((Keeps.refl (fun k => k = fb) w4).put 8 (.slice a8 n8 c8))
  have HL5 : Hid (Blk (w4.setCell ⟨fb, 8, none⟩ (.slice a8 n8 c8)) fb #[.int .u64 27, .int .u64 0, .int .u64 0, .bool false, .int .u64 0, .int .u64 0, .int .u64 0, .slice none 0 0, .slice a8 n8 c8, .bool false, .bool false, .int .i64 0] 32) := Lib.hid ((HL4.out.set 8 (.slice a8 n8 c8)).as rfl)
  have HR5 := Lib.hid (HR4.out.keep hkk (fun h => HNE.out.2.2 h.symm) (fun b hb h => by have h1 := HLT.out b hb; have h2 := HGE.out; omega))
  have HK5 := Lib.hid (Keeps.below HK4.out hkk HK4.out.size (fun k h => by have h2 := HGE.out; omega))
  have HZ5 := Lib.hid (hkk.blk HZ4.out HNE.out.2.1)
  have HOF := (HO4.out.keep hkk (fun b hb h => by have h1 := (HO4.out.ge b hb).1; have h2 := HOB.out; omega)).mono HOB.out.1
  go_meet
  cases ok1 with
  | false => exact ⟨HZ5.out, HK5.out, .inr ⟨rfl, false, (⟨⟨27, 0, 0, false, 0, 0, 0, [], bs, false, false, 0⟩, none, 0, 0, a8, n8, c8⟩ : Qf), q1, y1_, HL5.out, HR5.out, fun h => (by cases h), fun _ => by rw [← HDD.out]; exact (show OptS true (chaD 27 ys1) (⟨27, 0, 0, false, 0, 0, 0, [], bs, false, false, 0⟩) _ _ from by unfold chaD; exact OptS.bind HC1.out.opt (OptS.ret _ _)).no⟩⟩
  | true => exact ⟨HZ5.out, HK5.out, .inr ⟨rfl, true, (⟨⟨27, 0, 0, false, 0, 0, 0, [], bs, false, false, 0⟩, none, 0, 0, a8, n8, c8⟩ : Qf), q1, y1_, HL5.out, HR5.out, fun _ => ⟨by rw [← HDD.out]; exact (show OptS true (chaD 27 ys1) (⟨27, 0, 0, false, 0, 0, 0, [], bs, false, false, 0⟩) _ _ from by unfold chaD; exact OptS.bind HC1.out.opt (OptS.ret _ _)).yes.2, Qn.bytes _ _ _ _ _ _ _ _ _ _ ⟨by omega, by omega⟩ inU_0 inU_0 inU_0 inU_0 _ _ _ _ HOF⟩, fun h => (by cases h)⟩⟩
 omega

set_option maxRecDepth 100000 in
set_option maxHeartbeats 100000000 in
theorem rt_d3 {ba off m cap : Nat} {xs ys1 : List UInt8} {t C V : Int} {p1 rs rb fb : Nat} {DD : Option (Qc × List UInt8)} {w w3 : World} (F : RfF ba off m cap xs ys1 t p1 rs rb fb DD w w3) (ht : 28 ≤ t) : rfR.1 ba off m cap xs ys1 t C V p1 rs rb fb DD w w3 := by
 have HLT := Lib.hid F.lt
 have HM := Lib.hid F.hm
 have HDD := Lib.hid F.dd
 have HR3 := Lib.hid F.r
 have HK3 := Lib.hid F.k
 have HZ3 := Lib.hid F.z
 have HL3 := Lib.hid F.l
 have HGE := Lib.hid F.ge
 have HNE := Lib.hid F.ne
 clear F
 intro J K' hJ hK
 by_cases h28 : t = 28
 ·subst h28
  have x0 : w3.cell? ⟨fb, 0, none⟩ = some (.int .u64 28) := HL3.out.cell 0
  have x10 : w3.cell? ⟨fb, 10, none⟩ = some (.bool false) := HL3.out.cell 10
  have y0 : w3.frozen? ⟨fb, 0, none⟩ = false := HL3.out.free 0
  have y10 : w3.frozen? ⟨fb, 10, none⟩ = false := HL3.out.free 10
  go_wp2_with fail
  clear x0 y0 x10 y10
  refine calls_named ?_
  intro w4 hw4
  have hkk : Keeps (fun k => k = fb) w3 w4 := by rw [← hw4]; exact (((Keeps.refl (fun k => k = fb) w3).put 0 (.int .u64 28)).put 10 (.bool false))
  have HL4 : Hid (Blk w4 fb #[.int .u64 28, .int .u64 0, .int .u64 0, .bool false, .int .u64 0, .int .u64 0, .int .u64 0, .slice none 0 0, .slice none 0 0, .bool false, .bool false, .int .i64 0] 32) := Lib.hid (by rw [← hw4]; exact ((HL3.out.set 0 (.int .u64 28)).set 10 (.bool false)).as rfl)
  have HR4 := Lib.hid (HR3.out.keep hkk (fun h => HNE.out.2.2 h.symm) (fun b hb h => by have h1 := HLT.out b hb; have h2 := HGE.out; omega))
  have HK4 : Hid (Below w.heap.size w w4) := Lib.hid (Keeps.below HK3.out hkk HK3.out.size (fun k h => by have h2 := HGE.out; omega))
  have HZ4 := Lib.hid (hkk.blk HZ3.out HNE.out.2.1)
  clear hkk hw4
  clear HR3 HK3 HZ3 HL3
  refine (rnum_q rb _ m cap xs p1 ys1 true w4 HR4.out).mono ?_
  rintro e w5 ⟨hk, v1, q1, y1_, ok1, rfl, hr, hs⟩
  have HK5 : Hid (Below w.heap.size w w5) := Lib.hid (Keeps.below HK4.out hk HK4.out.size (fun k h => by have h2 := HGE.out; omega))
  have HZ5 := Lib.hid (hk.blk HZ4.out HNE.out.1)
  have HL5 := Lib.hid (hk.blk HL4.out HNE.out.2.2)
  have HR5 := Lib.hid hr
  have HN1 := Lib.hid hs
  have HV1 := Lib.hid hs.bd
  clear hk hr hs
  clear HR4 HK4 HZ4 HL4
  have x5 : w5.cell? ⟨fb, 5, none⟩ = some (.int .u64 0) := HL5.out.cell 5
  have x10 : w5.cell? ⟨fb, 10, none⟩ = some (.bool false) := HL5.out.cell 10
  have y5 : w5.frozen? ⟨fb, 5, none⟩ = false := HL5.out.free 5
  go_wp2_with fail
  clear x5 y5 x10
  refine calls_named ?_
  intro w6 hw6
  have hkk : Keeps (fun k => k = fb) w5 w6 := by rw [← hw6]; exact ((Keeps.refl (fun k => k = fb) w5).put 5 (.int .u64 v1))
  have HL6 : Hid (Blk w6 fb #[.int .u64 28, .int .u64 0, .int .u64 0, .bool false, .int .u64 0, .int .u64 v1, .int .u64 0, .slice none 0 0, .slice none 0 0, .bool false, .bool false, .int .i64 0] 32) := Lib.hid (by rw [← hw6]; exact (HL5.out.set 5 (.int .u64 v1)).as rfl)
  have HR6 := Lib.hid (HR5.out.keep hkk (fun h => HNE.out.2.2 h.symm) (fun b hb h => by have h1 := HLT.out b hb; have h2 := HGE.out; omega))
  have HK6 : Hid (Below w.heap.size w w6) := Lib.hid (Keeps.below HK5.out hkk HK5.out.size (fun k h => by have h2 := HGE.out; omega))
  have HZ6 := Lib.hid (hkk.blk HZ5.out HNE.out.2.1)
  clear hkk hw6
  clear HR5 HK5 HZ5 HL5
  refine (rnum_q rb _ m cap xs q1 y1_ ok1 w6 HR6.out).mono ?_
  rintro e w7 ⟨hk, v2, q2, y2_, ok2, rfl, hr, hs⟩
  have HK7 : Hid (Below w.heap.size w w7) := Lib.hid (Keeps.below HK6.out hk HK6.out.size (fun k h => by have h2 := HGE.out; omega))
  have HZ7 := Lib.hid (hk.blk HZ6.out HNE.out.1)
  have HL7 := Lib.hid (hk.blk HL6.out HNE.out.2.2)
  have HR7 := Lib.hid hr
  have HN2 := Lib.hid hs
  have HV2 := Lib.hid hs.bd
  clear hk hr hs
  clear HR6 HK6 HZ6 HL6
  have x2 : w7.cell? ⟨fb, 2, none⟩ = some (.int .u64 0) := HL7.out.cell 2
  have y2 : w7.frozen? ⟨fb, 2, none⟩ = false := HL7.out.free 2
  go_wp2_with fail
  clear x2 y2
  refine calls_named ?_
  intro w8 hw8
  have hkk : Keeps (fun k => k = fb) w7 w8 := by rw [← hw8]; exact ((Keeps.refl (fun k => k = fb) w7).put 2 (.int .u64 v2))
  have HL8 : Hid (Blk w8 fb #[.int .u64 28, .int .u64 0, .int .u64 v2, .bool false, .int .u64 0, .int .u64 v1, .int .u64 0, .slice none 0 0, .slice none 0 0, .bool false, .bool false, .int .i64 0] 32) := Lib.hid (by rw [← hw8]; exact (HL7.out.set 2 (.int .u64 v2)).as rfl)
  have HR8 := Lib.hid (HR7.out.keep hkk (fun h => HNE.out.2.2 h.symm) (fun b hb h => by have h1 := HLT.out b hb; have h2 := HGE.out; omega))
  have HK8 : Hid (Below w.heap.size w w8) := Lib.hid (Keeps.below HK7.out hkk HK7.out.size (fun k h => by have h2 := HGE.out; omega))
  have HZ8 := Lib.hid (hkk.blk HZ7.out HNE.out.2.1)
  clear hkk hw8
  clear HR7 HK7 HZ7 HL7
  refine (rnum_q rb _ m cap xs q2 y2_ ok2 w8 HR8.out).mono ?_
  rintro e w9 ⟨hk, v3, q3, y3_, ok3, rfl, hr, hs⟩
  have HK9 : Hid (Below w.heap.size w w9) := Lib.hid (Keeps.below HK8.out hk HK8.out.size (fun k h => by have h2 := HGE.out; omega))
  have HZ9 := Lib.hid (hk.blk HZ8.out HNE.out.1)
  have HL9 := Lib.hid (hk.blk HL8.out HNE.out.2.2)
  have HR9 := Lib.hid hr
  have HN3 := Lib.hid hs
  have HV3 := Lib.hid hs.bd
  clear hk hr hs
  clear HR8 HK8 HZ8 HL8
  obtain ⟨K3, hK⟩ : ∃ K : Nat, v3 = (K : Int) := ⟨v3.toNat, by have := HV3.out; omega⟩
  have HKK3 := Lib.hid hK
  subst hK
  go_wp2_with fail
  refine (rcut_q rb _ m cap xs q3 y3_ ok3 K3 w9 HR9.out (by have := HV3.out; omega)).mono ?_
  rintro e w10 ⟨hk, a8, n8, c8, bs, q4, y4_, ok4, rfl, ho, hr, hs⟩
  have HK10 : Hid (Below w.heap.size w w10) := Lib.hid (Keeps.below HK9.out hk HK9.out.size (fun k h => by have h2 := HGE.out; omega))
  have HZ10 := Lib.hid (hk.blk HZ9.out HNE.out.1)
  have HL10 := Lib.hid (hk.blk HL9.out HNE.out.2.2)
  have HR10 := Lib.hid hr
  have HO10 : Hid (Bo w9.heap.size w10 a8 n8 c8 bs) := Lib.hid ho
  have HOB : Hid (fb < w9.heap.size ∧ rs < w9.heap.size) := Lib.hid ⟨HL9.out.lt, HZ9.out.lt⟩
  have HOW : Hid (w.heap.size ≤ w9.heap.size) := Lib.hid HK9.out.size
  have HC4 := Lib.hid hs
  clear hk hr hs ho
  clear HR9 HK9 HZ9 HL9
  have x8 : w10.cell? ⟨fb, 8, none⟩ = some (.slice none 0 0) := HL10.out.cell 8
  have y8 : w10.frozen? ⟨fb, 8, none⟩ = false := HL10.out.free 8
  go_wp2_with fail
  clear x8 y8
  have hkk : Keeps (fun k => k = fb) w10 (w10.setCell ⟨fb, 8, none⟩ (.slice a8 n8 c8)) := ((Keeps.refl (fun k => k = fb) w10).put 8 (.slice a8 n8 c8))
  have HL11 : Hid (Blk (w10.setCell ⟨fb, 8, none⟩ (.slice a8 n8 c8)) fb #[.int .u64 28, .int .u64 0, .int .u64 v2, .bool false, .int .u64 0, .int .u64 v1, .int .u64 0, .slice none 0 0, .slice a8 n8 c8, .bool false, .bool false, .int .i64 0] 32) := Lib.hid ((HL10.out.set 8 (.slice a8 n8 c8)).as rfl)
  have HR11 := Lib.hid (HR10.out.keep hkk (fun h => HNE.out.2.2 h.symm) (fun b hb h => by have h1 := HLT.out b hb; have h2 := HGE.out; omega))
  have HK11 := Lib.hid (Keeps.below HK10.out hkk HK10.out.size (fun k h => by have h2 := HGE.out; omega))
  have HZ11 := Lib.hid (hkk.blk HZ10.out HNE.out.2.1)
  have HOF := (HO10.out.keep hkk (fun b hb h => by have h1 := (HO10.out.ge b hb).1; have h2 := HOB.out; omega)).mono HOB.out.1
  go_meet
  cases ok4 with
  | false => exact ⟨HZ11.out, HK11.out, .inr ⟨rfl, false, (⟨⟨28, 0, v2, false, 0, v1, 0, [], bs, false, false, 0⟩, none, 0, 0, a8, n8, c8⟩ : Qf), q4, y4_, HL11.out, HR11.out, fun h => (by cases h), fun _ => by rw [← HDD.out]; exact (show OptS true (cloD false ys1) (⟨28, 0, v2, false, 0, v1, 0, [], bs, false, false, 0⟩) _ _ from by unfold cloD; exact OptS.bind HN1.out.opt (OptS.bind HN2.out.opt (OptS.bind (OptS.ptx HN3.out HC4.out rfl) (OptS.ret _ _)))).no⟩⟩
  | true => exact ⟨HZ11.out, HK11.out, .inr ⟨rfl, true, (⟨⟨28, 0, v2, false, 0, v1, 0, [], bs, false, false, 0⟩, none, 0, 0, a8, n8, c8⟩ : Qf), q4, y4_, HL11.out, HR11.out, fun _ => ⟨by rw [← HDD.out]; exact (show OptS true (cloD false ys1) (⟨28, 0, v2, false, 0, v1, 0, [], bs, false, false, 0⟩) _ _ from by unfold cloD; exact OptS.bind HN1.out.opt (OptS.bind HN2.out.opt (OptS.bind (OptS.ptx HN3.out HC4.out rfl) (OptS.ret _ _)))).yes.2, Qn.bytes _ _ _ _ _ _ _ _ _ _ ⟨by omega, by omega⟩ inU_0 ⟨HV2.out.1, by have := HV2.out; omega⟩ inU_0 ⟨HV1.out.1, by have := HV1.out; omega⟩ _ _ _ _ HOF⟩, fun h => (by cases h)⟩⟩
 by_cases h29 : t = 29
 ·subst h29
  have x0 : w3.cell? ⟨fb, 0, none⟩ = some (.int .u64 29) := HL3.out.cell 0
  have x10 : w3.cell? ⟨fb, 10, none⟩ = some (.bool false) := HL3.out.cell 10
  have y0 : w3.frozen? ⟨fb, 0, none⟩ = false := HL3.out.free 0
  have y10 : w3.frozen? ⟨fb, 10, none⟩ = false := HL3.out.free 10
  go_wp2_with fail
  clear x0 y0 x10 y10
  refine calls_named ?_
  intro w4 hw4
  have hkk : Keeps (fun k => k = fb) w3 w4 := by rw [← hw4]; exact (((Keeps.refl (fun k => k = fb) w3).put 0 (.int .u64 28)).put 10 (.bool true))
  have HL4 : Hid (Blk w4 fb #[.int .u64 28, .int .u64 0, .int .u64 0, .bool false, .int .u64 0, .int .u64 0, .int .u64 0, .slice none 0 0, .slice none 0 0, .bool false, .bool true, .int .i64 0] 32) := Lib.hid (by rw [← hw4]; exact ((HL3.out.set 0 (.int .u64 28)).set 10 (.bool true)).as rfl)
  have HR4 := Lib.hid (HR3.out.keep hkk (fun h => HNE.out.2.2 h.symm) (fun b hb h => by have h1 := HLT.out b hb; have h2 := HGE.out; omega))
  have HK4 : Hid (Below w.heap.size w w4) := Lib.hid (Keeps.below HK3.out hkk HK3.out.size (fun k h => by have h2 := HGE.out; omega))
  have HZ4 := Lib.hid (hkk.blk HZ3.out HNE.out.2.1)
  clear hkk hw4
  clear HR3 HK3 HZ3 HL3
  refine (rnum_q rb _ m cap xs p1 ys1 true w4 HR4.out).mono ?_
  rintro e w5 ⟨hk, v1, q1, y1_, ok1, rfl, hr, hs⟩
  have HK5 : Hid (Below w.heap.size w w5) := Lib.hid (Keeps.below HK4.out hk HK4.out.size (fun k h => by have h2 := HGE.out; omega))
  have HZ5 := Lib.hid (hk.blk HZ4.out HNE.out.1)
  have HL5 := Lib.hid (hk.blk HL4.out HNE.out.2.2)
  have HR5 := Lib.hid hr
  have HN1 := Lib.hid hs
  have HV1 := Lib.hid hs.bd
  clear hk hr hs
  clear HR4 HK4 HZ4 HL4
  have x5 : w5.cell? ⟨fb, 5, none⟩ = some (.int .u64 0) := HL5.out.cell 5
  have x10 : w5.cell? ⟨fb, 10, none⟩ = some (.bool true) := HL5.out.cell 10
  have y5 : w5.frozen? ⟨fb, 5, none⟩ = false := HL5.out.free 5
  go_wp2_with fail
  clear x5 y5 x10
  refine calls_named ?_
  intro w6 hw6
  have hkk : Keeps (fun k => k = fb) w5 w6 := by rw [← hw6]; exact ((Keeps.refl (fun k => k = fb) w5).put 5 (.int .u64 v1))
  have HL6 : Hid (Blk w6 fb #[.int .u64 28, .int .u64 0, .int .u64 0, .bool false, .int .u64 0, .int .u64 v1, .int .u64 0, .slice none 0 0, .slice none 0 0, .bool false, .bool true, .int .i64 0] 32) := Lib.hid (by rw [← hw6]; exact (HL5.out.set 5 (.int .u64 v1)).as rfl)
  have HR6 := Lib.hid (HR5.out.keep hkk (fun h => HNE.out.2.2 h.symm) (fun b hb h => by have h1 := HLT.out b hb; have h2 := HGE.out; omega))
  have HK6 : Hid (Below w.heap.size w w6) := Lib.hid (Keeps.below HK5.out hkk HK5.out.size (fun k h => by have h2 := HGE.out; omega))
  have HZ6 := Lib.hid (hkk.blk HZ5.out HNE.out.2.1)
  clear hkk hw6
  clear HR5 HK5 HZ5 HL5
  refine (rnum_q rb _ m cap xs q1 y1_ ok1 w6 HR6.out).mono ?_
  rintro e w7 ⟨hk, v2, q2, y2_, ok2, rfl, hr, hs⟩
  have HK7 : Hid (Below w.heap.size w w7) := Lib.hid (Keeps.below HK6.out hk HK6.out.size (fun k h => by have h2 := HGE.out; omega))
  have HZ7 := Lib.hid (hk.blk HZ6.out HNE.out.1)
  have HL7 := Lib.hid (hk.blk HL6.out HNE.out.2.2)
  have HR7 := Lib.hid hr
  have HN2 := Lib.hid hs
  have HV2 := Lib.hid hs.bd
  clear hk hr hs
  clear HR6 HK6 HZ6 HL6
  obtain ⟨K2, hK⟩ : ∃ K : Nat, v2 = (K : Int) := ⟨v2.toNat, by have := HV2.out; omega⟩
  have HKK2 := Lib.hid hK
  subst hK
  go_wp2_with fail
  refine (rcut_q rb _ m cap xs q2 y2_ ok2 K2 w7 HR7.out (by have := HV2.out; omega)).mono ?_
  rintro e w8 ⟨hk, a8, n8, c8, bs, q3, y3_, ok3, rfl, ho, hr, hs⟩
  have HK8 : Hid (Below w.heap.size w w8) := Lib.hid (Keeps.below HK7.out hk HK7.out.size (fun k h => by have h2 := HGE.out; omega))
  have HZ8 := Lib.hid (hk.blk HZ7.out HNE.out.1)
  have HL8 := Lib.hid (hk.blk HL7.out HNE.out.2.2)
  have HR8 := Lib.hid hr
  have HO8 : Hid (Bo w7.heap.size w8 a8 n8 c8 bs) := Lib.hid ho
  have HOB : Hid (fb < w7.heap.size ∧ rs < w7.heap.size) := Lib.hid ⟨HL7.out.lt, HZ7.out.lt⟩
  have HOW : Hid (w.heap.size ≤ w7.heap.size) := Lib.hid HK7.out.size
  have HC3 := Lib.hid hs
  clear hk hr hs ho
  clear HR7 HK7 HZ7 HL7
  have x8 : w8.cell? ⟨fb, 8, none⟩ = some (.slice none 0 0) := HL8.out.cell 8
  have y8 : w8.frozen? ⟨fb, 8, none⟩ = false := HL8.out.free 8
  go_wp2_with fail
  clear x8 y8
  have hkk : Keeps (fun k => k = fb) w8 (w8.setCell ⟨fb, 8, none⟩ (.slice a8 n8 c8)) := ((Keeps.refl (fun k => k = fb) w8).put 8 (.slice a8 n8 c8))
  have HL9 : Hid (Blk (w8.setCell ⟨fb, 8, none⟩ (.slice a8 n8 c8)) fb #[.int .u64 28, .int .u64 0, .int .u64 0, .bool false, .int .u64 0, .int .u64 v1, .int .u64 0, .slice none 0 0, .slice a8 n8 c8, .bool false, .bool true, .int .i64 0] 32) := Lib.hid ((HL8.out.set 8 (.slice a8 n8 c8)).as rfl)
  have HR9 := Lib.hid (HR8.out.keep hkk (fun h => HNE.out.2.2 h.symm) (fun b hb h => by have h1 := HLT.out b hb; have h2 := HGE.out; omega))
  have HK9 := Lib.hid (Keeps.below HK8.out hkk HK8.out.size (fun k h => by have h2 := HGE.out; omega))
  have HZ9 := Lib.hid (hkk.blk HZ8.out HNE.out.2.1)
  have HOF := (HO8.out.keep hkk (fun b hb h => by have h1 := (HO8.out.ge b hb).1; have h2 := HOB.out; omega)).mono HOB.out.1
  go_meet
  cases ok3 with
  | false => exact ⟨HZ9.out, HK9.out, .inr ⟨rfl, false, (⟨⟨28, 0, 0, false, 0, v1, 0, [], bs, false, true, 0⟩, none, 0, 0, a8, n8, c8⟩ : Qf), q3, y3_, HL9.out, HR9.out, fun h => (by cases h), fun _ => by rw [← HDD.out]; exact (show OptS true (cloD true ys1) (⟨28, 0, 0, false, 0, v1, 0, [], bs, false, true, 0⟩) _ _ from by unfold cloD; exact OptS.bind HN1.out.opt (OptS.bind (OptS.ret _ _) (OptS.bind (OptS.ptx HN2.out HC3.out rfl) (OptS.ret _ _)))).no⟩⟩
  | true => exact ⟨HZ9.out, HK9.out, .inr ⟨rfl, true, (⟨⟨28, 0, 0, false, 0, v1, 0, [], bs, false, true, 0⟩, none, 0, 0, a8, n8, c8⟩ : Qf), q3, y3_, HL9.out, HR9.out, fun _ => ⟨by rw [← HDD.out]; exact (show OptS true (cloD true ys1) (⟨28, 0, 0, false, 0, v1, 0, [], bs, false, true, 0⟩) _ _ from by unfold cloD; exact OptS.bind HN1.out.opt (OptS.bind (OptS.ret _ _) (OptS.bind (OptS.ptx HN2.out HC3.out rfl) (OptS.ret _ _)))).yes.2, Qn.bytes _ _ _ _ _ _ _ _ _ _ ⟨by omega, by omega⟩ inU_0 inU_0 inU_0 ⟨HV1.out.1, by have := HV1.out; omega⟩ _ _ _ _ HOF⟩, fun h => (by cases h)⟩⟩
 by_cases h30 : t = 30
 ·subst h30
  go_wp2_with fail
  go_meet
  exact ⟨HZ3.out, HK3.out, .inr ⟨rfl, true, (⟨⟨30, 0, 0, false, 0, 0, 0, [], [], false, false, 0⟩, none, 0, 0, none, 0, 0⟩ : Qf), p1, ys1, HL3.out, HR3.out, fun _ => ⟨by rw [← HDD.out]; rfl, Qn.plain _ _ _ _ _ _ _ _ _ _ _ _ ⟨by omega, by omega⟩ inU_0 inU_0 inU_0 inU_0 inU_0 inU_0 (by omega)⟩, fun h => (by cases h)⟩⟩
 have e1 : (t == 1) = false := by simp; omega
 have e30 : (t == 30) = false := by simp; omega
 have e2 : (t == 2) = false := by simp; omega
 have e4 : (t == 4) = false := by simp; omega
 have e5 : (t == 5) = false := by simp; omega
 have e6 : (t == 6) = false := by simp; omega
 have e7 : (t == 7) = false := by simp; omega
 have e16 : (t == 16) = false := by simp; omega
 have e20 : (t == 20) = false := by simp; omega
 have e17 : (t == 17) = false := by simp; omega
 have e21 : (t == 21) = false := by simp; omega
 have e18 : (t == 18) = false := by simp; omega
 have e19 : (t == 19) = false := by simp; omega
 have e22 : (t == 22) = false := by simp; omega
 have e23 : (t == 23) = false := by simp; omega
 have e24 : (t == 24) = false := by simp; omega
 have e25 : (t == 25) = false := by simp; omega
 have e26 : (t == 26) = false := by simp; omega
 have e27 : (t == 27) = false := by simp; omega
 have e28 : (t == 28) = false := by simp; omega
 have e29 : (t == 29) = false := by simp; omega
 have HT0 : Hid (decT t ys1 = none) := Lib.hid (decT_none _ (by omega))
 have g1 : decide ((8 : Int) ≤ t) = true := decide_eq_true (by omega)
 have g2 : decide (t ≤ 15) = false := decide_eq_false (by omega)
 go_wp2_with fail
 go_meet
 exact ⟨HZ3.out, HK3.out, .inl ⟨rfl, by rw [← HDD.out]; exact HT0.out⟩⟩

end Go.Proofs.Ytgfkgmmigbpciaa
