/- ReadFrame of the package bifoldref17: some types. -/
import Derived.Test.YtgfkgmmigbpciaaQrU
namespace Go.Proofs.Ytgfkgmmigbpciaa
set_option linter.unusedSimpArgs false
set_option linter.unusedVariables false
open Go.RowKit Go.Deep

set_option maxRecDepth 100000 in
set_option maxHeartbeats 100000000 in
theorem rt_b1 {ba off m cap : Nat} {xs ys1 : List UInt8} {t C V : Int} {p1 rs rb fb : Nat} {DD : Option (Qc × List UInt8)} {w w3 : World} (F : RfF ba off m cap xs ys1 t p1 rs rb fb DD w w3) (ht : 8 ≤ t ∧ t < 12) : rfR.1 ba off m cap xs ys1 t C V p1 rs rb fb DD w w3 := by
 have HLT := Lib.hid F.lt
 have HM := Lib.hid F.hm
 have HDD := Lib.hid F.dd
 have HR3 := Lib.hid F.r
 have HK3 := Lib.hid F.k
 have HZ3 := Lib.hid F.z
 have HL3 := Lib.hid F.l
 have HGE := Lib.hid F.ge
 have HNE := Lib.hid F.ne
 clear F
 intro J K' hJ hK
 by_cases h8 : t = 8
 ·subst h8
  have b1 : bits .and .u64 8 1 = 0 := by decide +kernel
  have b4 : bits .and .u64 8 4 = 0 := by decide +kernel
  have b2 : bits .and .u64 8 2 = 0 := by decide +kernel
  have x0 : w3.cell? ⟨fb, 0, none⟩ = some (.int .u64 8) := HL3.out.cell 0
  have y0 : w3.frozen? ⟨fb, 0, none⟩ = false := HL3.out.free 0
  go_wp2_with fail
  clear x0 y0
  refine calls_named ?_
  intro w4 hw4
  have hkk : Keeps (fun k => k = fb) w3 w4 := by rw [← hw4]; exact ((Keeps.refl (fun k => k = fb) w3).put 0 (.int .u64 8))
  have HL4 : Hid (Blk w4 fb #[.int .u64 8, .int .u64 0, .int .u64 0, .bool false, .int .u64 0, .int .u64 0, .int .u64 0, .slice none 0 0, .slice none 0 0, .bool false, .bool false, .int .i64 0] 32) := Lib.hid (by rw [← hw4]; exact (HL3.out.set 0 (.int .u64 8)).as rfl)
  have HR4 := Lib.hid (HR3.out.keep hkk (fun h => HNE.out.2.2 h.symm) (fun b hb h => by have h1 := HLT.out b hb; have h2 := HGE.out; omega))
  have HK4 : Hid (Below w.heap.size w w4) := Lib.hid (Keeps.below HK3.out hkk HK3.out.size (fun k h => by have h2 := HGE.out; omega))
  have HZ4 := Lib.hid (hkk.blk HZ3.out HNE.out.2.1)
  clear hkk hw4
  clear HR3 HK3 HZ3 HL3
  refine (rnum_q rb _ m cap xs p1 ys1 true w4 HR4.out).mono ?_
  rintro e w5 ⟨hk, v1, q1, y1_, ok1, rfl, hr, hs⟩
  have HK5 : Hid (Below w.heap.size w w5) := Lib.hid (Keeps.below HK4.out hk HK4.out.size (fun k h => by have h2 := HGE.out; omega))
  have HZ5 := Lib.hid (hk.blk HZ4.out HNE.out.1)
  have HL5 := Lib.hid (hk.blk HL4.out HNE.out.2.2)
  have HR5 := Lib.hid hr
  have HN1 := Lib.hid hs
  have HV1 := Lib.hid hs.bd
  clear hk hr hs
  clear HR4 HK4 HZ4 HL4
  have x1 : w5.cell? ⟨fb, 1, none⟩ = some (.int .u64 0) := HL5.out.cell 1
  have x3 : w5.cell? ⟨fb, 3, none⟩ = some (.bool false) := HL5.out.cell 3
  have y1 : w5.frozen? ⟨fb, 1, none⟩ = false := HL5.out.free 1
  have y3 : w5.frozen? ⟨fb, 3, none⟩ = false := HL5.out.free 3
  go_upto_region 40 with fail
  clear x1 y1 x3 y3
  refine wp_named ?_
  intro w6 hw6
  have hkk : Keeps (fun k => k = fb) w5 w6 := by rw [← hw6]; exact (((Keeps.refl (fun k => k = fb) w5).put 1 (.int .u64 v1)).put 3 (.bool false))
  have HL6 : Hid (Blk w6 fb #[.int .u64 8, .int .u64 v1, .int .u64 0, .bool false, .int .u64 0, .int .u64 0, .int .u64 0, .slice none 0 0, .slice none 0 0, .bool false, .bool false, .int .i64 0] 32) := Lib.hid (by rw [← hw6]; exact ((HL5.out.set 1 (.int .u64 v1)).set 3 (.bool false)).as rfl)
  have HR6 := Lib.hid (HR5.out.keep hkk (fun h => HNE.out.2.2 h.symm) (fun b hb h => by have h1 := HLT.out b hb; have h2 := HGE.out; omega))
  have HK6 : Hid (Below w.heap.size w w6) := Lib.hid (Keeps.below HK5.out hkk HK5.out.size (fun k h => by have h2 := HGE.out; omega))
  have HZ6 := Lib.hid (hkk.blk HZ5.out HNE.out.2.1)
  clear hkk hw6
  clear HR5 HK5 HZ5 HL5
  have c0 : w6.cell? ⟨rb, 0, none⟩ = some (.slice (some ⟨ba, off, none⟩) m cap) := HR6.out.k.cells.1.1
  have c1 : w6.cell? ⟨rb, 1, none⟩ = some (.int .i64 (q1 : Int)) := HR6.out.k.cells.1.2.1
  have c2 : w6.cell? ⟨rb, 2, none⟩ = some (.bool ok1) := HR6.out.k.cells.1.2.2
  obtain ⟨L, hL⟩ : ∃ L : Nat, (m : Int) - (q1 : Int) = (L : Int) := ⟨m - q1, by have := HR6.out.le; omega⟩
  have HLL : Hid (L = y1_.length) := Lib.hid (by have h1 := HR6.out.len; have h2 := HR6.out.le; omega)
  have HLM : Hid (L ≤ 1000000) := Lib.hid (by have := HM.out; omega)
  have hwi : IntKind.i64.wrap (L : Int) = (L : Int) := by have := HLM.out; rw [IntKind.wrap_i64]; omega
  have hwu : IntKind.u64.wrap (L : Int) = (L : Int) := by have := HLM.out; rw [IntKind.wrap_u64]; omega
  go_upto_region 41 with fail
  clear c0 c1 c2 hL hwi hwu
  by_cases hg : (L : Int) ≤ 4611686018427387903
  rotate_left
  ·have x2 : w6.cell? ⟨fb, 2, none⟩ = some (.int .u64 0) := HL6.out.cell 2
   have hgd : decide ((L : Int) ≤ 4611686018427387903) = false := decide_eq_false hg
   have HG : Hid (endB (0) L = false) := Lib.hid (by rw [endG _ _ (by omega)]; simpa using hgd)
   go_wp2_with fail
   clear x2 hgd hg
   refine (rcut_q rb _ m cap xs q1 y1_ ok1 L w6 HR6.out (by have := HLM.out; omega)).mono ?_
   rintro e w7 ⟨hk, a8, n8, c8, bs, q2, y2_, ok2, rfl, ho, hr, hs⟩
   have HK7 : Hid (Below w.heap.size w w7) := Lib.hid (Keeps.below HK6.out hk HK6.out.size (fun k h => by have h2 := HGE.out; omega))
   have HZ7 := Lib.hid (hk.blk HZ6.out HNE.out.1)
   have HL7 := Lib.hid (hk.blk HL6.out HNE.out.2.2)
   have HR7 := Lib.hid hr
   have HO7 : Hid (Bo w6.heap.size w7 a8 n8 c8 bs) := Lib.hid ho
   have HOB : Hid (fb < w6.heap.size ∧ rs < w6.heap.size) := Lib.hid ⟨HL6.out.lt, HZ6.out.lt⟩
   have HOW : Hid (w.heap.size ≤ w6.heap.size) := Lib.hid HK6.out.size
   have HC2 := Lib.hid hs
   clear hk hr hs ho
   clear HR6 HK6 HZ6 HL6
   have x8 : w7.cell? ⟨fb, 8, none⟩ = some (.slice none 0 0) := HL7.out.cell 8
   have y8 : w7.frozen? ⟨fb, 8, none⟩ = false := HL7.out.free 8
   go_wp2_with fail
   clear x8 y8
   have hkk : Keeps (fun k => k = fb) w7 (w7.setCell ⟨fb, 8, none⟩ (.slice a8 n8 c8)) := ((Keeps.refl (fun k => k = fb) w7).put 8 (.slice a8 n8 c8))
   have HL8 : Hid (Blk (w7.setCell ⟨fb, 8, none⟩ (.slice a8 n8 c8)) fb #[.int .u64 8, .int .u64 v1, .int .u64 0, .bool false, .int .u64 0, .int .u64 0, .int .u64 0, .slice none 0 0, .slice a8 n8 c8, .bool false, .bool false, .int .i64 0] 32) := Lib.hid ((HL7.out.set 8 (.slice a8 n8 c8)).as rfl)
   have HR8 := Lib.hid (HR7.out.keep hkk (fun h => HNE.out.2.2 h.symm) (fun b hb h => by have h1 := HLT.out b hb; have h2 := HGE.out; omega))
   have HK8 := Lib.hid (Keeps.below HK7.out hkk HK7.out.size (fun k h => by have h2 := HGE.out; omega))
   have HZ8 := Lib.hid (hkk.blk HZ7.out HNE.out.2.1)
   have HOF := (HO7.out.keep hkk (fun b hb h => by have h1 := (HO7.out.ge b hb).1; have h2 := HOB.out; omega)).mono HOB.out.1
   go_meet
   exact ⟨HZ8.out, HK8.out, .inl ⟨rfl, by rw [← HDD.out]; exact (show OptS true (decT _ ys1) (⟨8, v1, 0, false, 0, 0, 0, [], bs, false, false, 0⟩) ys1 false from (by show OptS true (strD false false false ys1) _ _ _; unfold strD; exact OptS.bind HN1.out.opt (OptS.bind (OptS.ret _ _) (OptS.noB _ _ (OptS.rest HC2.out HLL.out) (fun h => if_neg (by rw [HC2.out.len h, HG.out]; decide)))))).no⟩⟩
  have x2 : w6.cell? ⟨fb, 2, none⟩ = some (.int .u64 0) := HL6.out.cell 2
  have hgd : decide ((L : Int) ≤ 4611686018427387903) = true := decide_eq_true hg
  have HG : Hid (endB (0) L = true) := Lib.hid (by rw [endG _ _ (by omega)]; simpa using hgd)
  go_wp2_with fail
  clear x2 hgd hg
  refine (rcut_q rb _ m cap xs q1 y1_ ok1 L w6 HR6.out (by have := HLM.out; omega)).mono ?_
  rintro e w7 ⟨hk, a8, n8, c8, bs, q2, y2_, ok2, rfl, ho, hr, hs⟩
  have HK7 : Hid (Below w.heap.size w w7) := Lib.hid (Keeps.below HK6.out hk HK6.out.size (fun k h => by have h2 := HGE.out; omega))
  have HZ7 := Lib.hid (hk.blk HZ6.out HNE.out.1)
  have HL7 := Lib.hid (hk.blk HL6.out HNE.out.2.2)
  have HR7 := Lib.hid hr
  have HO7 : Hid (Bo w6.heap.size w7 a8 n8 c8 bs) := Lib.hid ho
  have HOB : Hid (fb < w6.heap.size ∧ rs < w6.heap.size) := Lib.hid ⟨HL6.out.lt, HZ6.out.lt⟩
  have HOW : Hid (w.heap.size ≤ w6.heap.size) := Lib.hid HK6.out.size
  have HC2 := Lib.hid hs
  clear hk hr hs ho
  clear HR6 HK6 HZ6 HL6
  have x8 : w7.cell? ⟨fb, 8, none⟩ = some (.slice none 0 0) := HL7.out.cell 8
  have y8 : w7.frozen? ⟨fb, 8, none⟩ = false := HL7.out.free 8
  go_wp2_with fail
  clear x8 y8
  have hkk : Keeps (fun k => k = fb) w7 (w7.setCell ⟨fb, 8, none⟩ (.slice a8 n8 c8)) := ((Keeps.refl (fun k => k = fb) w7).put 8 (.slice a8 n8 c8))
  have HL8 : Hid (Blk (w7.setCell ⟨fb, 8, none⟩ (.slice a8 n8 c8)) fb #[.int .u64 8, .int .u64 v1, .int .u64 0, .bool false, .int .u64 0, .int .u64 0, .int .u64 0, .slice none 0 0, .slice a8 n8 c8, .bool false, .bool false, .int .i64 0] 32) := Lib.hid ((HL7.out.set 8 (.slice a8 n8 c8)).as rfl)
  have HR8 := Lib.hid (HR7.out.keep hkk (fun h => HNE.out.2.2 h.symm) (fun b hb h => by have h1 := HLT.out b hb; have h2 := HGE.out; omega))
  have HK8 := Lib.hid (Keeps.below HK7.out hkk HK7.out.size (fun k h => by have h2 := HGE.out; omega))
  have HZ8 := Lib.hid (hkk.blk HZ7.out HNE.out.2.1)
  have HOF := (HO7.out.keep hkk (fun b hb h => by have h1 := (HO7.out.ge b hb).1; have h2 := HOB.out; omega)).mono HOB.out.1
  go_meet
  cases ok2 with
  | false => exact ⟨HZ8.out, HK8.out, .inr ⟨rfl, false, (⟨⟨8, v1, 0, false, 0, 0, 0, [], bs, false, false, 0⟩, none, 0, 0, a8, n8, c8⟩ : Qf), q2, y2_, HL8.out, HR8.out, fun h => (by cases h), fun _ => by rw [← HDD.out]; exact (show OptS true (decT _ ys1) (⟨8, v1, 0, false, 0, 0, 0, [], bs, false, false, 0⟩) _ _ from (by show OptS true (strD false false false ys1) _ _ _; unfold strD; exact OptS.bind HN1.out.opt (OptS.bind (OptS.ret _ _) (OptS.bind (OptS.rest HC2.out HLL.out) (OptS.ite _ _ (fun h => by rw [HC2.out.len h]; exact HG.out)))))).no⟩⟩
  | true => exact ⟨HZ8.out, HK8.out, .inr ⟨rfl, true, (⟨⟨8, v1, 0, false, 0, 0, 0, [], bs, false, false, 0⟩, none, 0, 0, a8, n8, c8⟩ : Qf), q2, y2_, HL8.out, HR8.out, fun _ => ⟨by rw [← HDD.out]; exact (show OptS true (decT _ ys1) (⟨8, v1, 0, false, 0, 0, 0, [], bs, false, false, 0⟩) _ _ from (by show OptS true (strD false false false ys1) _ _ _; unfold strD; exact OptS.bind HN1.out.opt (OptS.bind (OptS.ret _ _) (OptS.bind (OptS.rest HC2.out HLL.out) (OptS.ite _ _ (fun h => by rw [HC2.out.len h]; exact HG.out)))))).yes.2, Qn.bytes _ _ _ _ _ _ _ _ _ _ ⟨by omega, by omega⟩ ⟨HV1.out.1, by have := HV1.out; omega⟩ inU_0 inU_0 inU_0 _ _ _ _ HOF⟩, fun h => (by cases h)⟩⟩
 by_cases h9 : t = 9
 ·subst h9
  have b1 : bits .and .u64 9 1 = 1 := by decide +kernel
  have b4 : bits .and .u64 9 4 = 0 := by decide +kernel
  have b2 : bits .and .u64 9 2 = 0 := by decide +kernel
  have x0 : w3.cell? ⟨fb, 0, none⟩ = some (.int .u64 9) := HL3.out.cell 0
  have y0 : w3.frozen? ⟨fb, 0, none⟩ = false := HL3.out.free 0
  go_wp2_with fail
  clear x0 y0
  refine calls_named ?_
  intro w4 hw4
  have hkk : Keeps (fun k => k = fb) w3 w4 := by rw [← hw4]; exact ((Keeps.refl (fun k => k = fb) w3).put 0 (.int .u64 8))
  have HL4 : Hid (Blk w4 fb #[.int .u64 8, .int .u64 0, .int .u64 0, .bool false, .int .u64 0, .int .u64 0, .int .u64 0, .slice none 0 0, .slice none 0 0, .bool false, .bool false, .int .i64 0] 32) := Lib.hid (by rw [← hw4]; exact (HL3.out.set 0 (.int .u64 8)).as rfl)
  have HR4 := Lib.hid (HR3.out.keep hkk (fun h => HNE.out.2.2 h.symm) (fun b hb h => by have h1 := HLT.out b hb; have h2 := HGE.out; omega))
  have HK4 : Hid (Below w.heap.size w w4) := Lib.hid (Keeps.below HK3.out hkk HK3.out.size (fun k h => by have h2 := HGE.out; omega))
  have HZ4 := Lib.hid (hkk.blk HZ3.out HNE.out.2.1)
  clear hkk hw4
  clear HR3 HK3 HZ3 HL3
  refine (rnum_q rb _ m cap xs p1 ys1 true w4 HR4.out).mono ?_
  rintro e w5 ⟨hk, v1, q1, y1_, ok1, rfl, hr, hs⟩
  have HK5 : Hid (Below w.heap.size w w5) := Lib.hid (Keeps.below HK4.out hk HK4.out.size (fun k h => by have h2 := HGE.out; omega))
  have HZ5 := Lib.hid (hk.blk HZ4.out HNE.out.1)
  have HL5 := Lib.hid (hk.blk HL4.out HNE.out.2.2)
  have HR5 := Lib.hid hr
  have HN1 := Lib.hid hs
  have HV1 := Lib.hid hs.bd
  clear hk hr hs
  clear HR4 HK4 HZ4 HL4
  have x1 : w5.cell? ⟨fb, 1, none⟩ = some (.int .u64 0) := HL5.out.cell 1
  have x3 : w5.cell? ⟨fb, 3, none⟩ = some (.bool false) := HL5.out.cell 3
  have y1 : w5.frozen? ⟨fb, 1, none⟩ = false := HL5.out.free 1
  have y3 : w5.frozen? ⟨fb, 3, none⟩ = false := HL5.out.free 3
  go_upto_region 40 with fail
  clear x1 y1 x3 y3
  refine wp_named ?_
  intro w6 hw6
  have hkk : Keeps (fun k => k = fb) w5 w6 := by rw [← hw6]; exact (((Keeps.refl (fun k => k = fb) w5).put 1 (.int .u64 v1)).put 3 (.bool true))
  have HL6 : Hid (Blk w6 fb #[.int .u64 8, .int .u64 v1, .int .u64 0, .bool true, .int .u64 0, .int .u64 0, .int .u64 0, .slice none 0 0, .slice none 0 0, .bool false, .bool false, .int .i64 0] 32) := Lib.hid (by rw [← hw6]; exact ((HL5.out.set 1 (.int .u64 v1)).set 3 (.bool true)).as rfl)
  have HR6 := Lib.hid (HR5.out.keep hkk (fun h => HNE.out.2.2 h.symm) (fun b hb h => by have h1 := HLT.out b hb; have h2 := HGE.out; omega))
  have HK6 : Hid (Below w.heap.size w w6) := Lib.hid (Keeps.below HK5.out hkk HK5.out.size (fun k h => by have h2 := HGE.out; omega))
  have HZ6 := Lib.hid (hkk.blk HZ5.out HNE.out.2.1)
  clear hkk hw6
  clear HR5 HK5 HZ5 HL5
  have c0 : w6.cell? ⟨rb, 0, none⟩ = some (.slice (some ⟨ba, off, none⟩) m cap) := HR6.out.k.cells.1.1
  have c1 : w6.cell? ⟨rb, 1, none⟩ = some (.int .i64 (q1 : Int)) := HR6.out.k.cells.1.2.1
  have c2 : w6.cell? ⟨rb, 2, none⟩ = some (.bool ok1) := HR6.out.k.cells.1.2.2
  obtain ⟨L, hL⟩ : ∃ L : Nat, (m : Int) - (q1 : Int) = (L : Int) := ⟨m - q1, by have := HR6.out.le; omega⟩
  have HLL : Hid (L = y1_.length) := Lib.hid (by have h1 := HR6.out.len; have h2 := HR6.out.le; omega)
  have HLM : Hid (L ≤ 1000000) := Lib.hid (by have := HM.out; omega)
  have hwi : IntKind.i64.wrap (L : Int) = (L : Int) := by have := HLM.out; rw [IntKind.wrap_i64]; omega
  have hwu : IntKind.u64.wrap (L : Int) = (L : Int) := by have := HLM.out; rw [IntKind.wrap_u64]; omega
  go_upto_region 41 with fail
  clear c0 c1 c2 hL hwi hwu
  by_cases hg : (L : Int) ≤ 4611686018427387903
  rotate_left
  ·have x2 : w6.cell? ⟨fb, 2, none⟩ = some (.int .u64 0) := HL6.out.cell 2
   have hgd : decide ((L : Int) ≤ 4611686018427387903) = false := decide_eq_false hg
   have HG : Hid (endB (0) L = false) := Lib.hid (by rw [endG _ _ (by omega)]; simpa using hgd)
   go_wp2_with fail
   clear x2 hgd hg
   refine (rcut_q rb _ m cap xs q1 y1_ ok1 L w6 HR6.out (by have := HLM.out; omega)).mono ?_
   rintro e w7 ⟨hk, a8, n8, c8, bs, q2, y2_, ok2, rfl, ho, hr, hs⟩
   have HK7 : Hid (Below w.heap.size w w7) := Lib.hid (Keeps.below HK6.out hk HK6.out.size (fun k h => by have h2 := HGE.out; omega))
   have HZ7 := Lib.hid (hk.blk HZ6.out HNE.out.1)
   have HL7 := Lib.hid (hk.blk HL6.out HNE.out.2.2)
   have HR7 := Lib.hid hr
   have HO7 : Hid (Bo w6.heap.size w7 a8 n8 c8 bs) := Lib.hid ho
   have HOB : Hid (fb < w6.heap.size ∧ rs < w6.heap.size) := Lib.hid ⟨HL6.out.lt, HZ6.out.lt⟩
   have HOW : Hid (w.heap.size ≤ w6.heap.size) := Lib.hid HK6.out.size
   have HC2 := Lib.hid hs
   clear hk hr hs ho
   clear HR6 HK6 HZ6 HL6
   have x8 : w7.cell? ⟨fb, 8, none⟩ = some (.slice none 0 0) := HL7.out.cell 8
   have y8 : w7.frozen? ⟨fb, 8, none⟩ = false := HL7.out.free 8
   go_wp2_with fail
   clear x8 y8
   have hkk : Keeps (fun k => k = fb) w7 (w7.setCell ⟨fb, 8, none⟩ (.slice a8 n8 c8)) := ((Keeps.refl (fun k => k = fb) w7).put 8 (.slice a8 n8 c8))
   have HL8 : Hid (Blk (w7.setCell ⟨fb, 8, none⟩ (.slice a8 n8 c8)) fb #[.int .u64 8, .int .u64 v1, .int .u64 0, .bool true, .int .u64 0, .int .u64 0, .int .u64 0, .slice none 0 0, .slice a8 n8 c8, .bool false, .bool false, .int .i64 0] 32) := Lib.hid ((HL7.out.set 8 (.slice a8 n8 c8)).as rfl)
   have HR8 := Lib.hid (HR7.out.keep hkk (fun h => HNE.out.2.2 h.symm) (fun b hb h => by have h1 := HLT.out b hb; have h2 := HGE.out; omega))
   have HK8 := Lib.hid (Keeps.below HK7.out hkk HK7.out.size (fun k h => by have h2 := HGE.out; omega))
   have HZ8 := Lib.hid (hkk.blk HZ7.out HNE.out.2.1)
   have HOF := (HO7.out.keep hkk (fun b hb h => by have h1 := (HO7.out.ge b hb).1; have h2 := HOB.out; omega)).mono HOB.out.1
   go_meet
   exact ⟨HZ8.out, HK8.out, .inl ⟨rfl, by rw [← HDD.out]; exact (show OptS true (decT _ ys1) (⟨8, v1, 0, true, 0, 0, 0, [], bs, false, false, 0⟩) ys1 false from (by show OptS true (strD true false false ys1) _ _ _; unfold strD; exact OptS.bind HN1.out.opt (OptS.bind (OptS.ret _ _) (OptS.noB _ _ (OptS.rest HC2.out HLL.out) (fun h => if_neg (by rw [HC2.out.len h, HG.out]; decide)))))).no⟩⟩
  have x2 : w6.cell? ⟨fb, 2, none⟩ = some (.int .u64 0) := HL6.out.cell 2
  have hgd : decide ((L : Int) ≤ 4611686018427387903) = true := decide_eq_true hg
  have HG : Hid (endB (0) L = true) := Lib.hid (by rw [endG _ _ (by omega)]; simpa using hgd)
  go_wp2_with fail
  clear x2 hgd hg
  refine (rcut_q rb _ m cap xs q1 y1_ ok1 L w6 HR6.out (by have := HLM.out; omega)).mono ?_
  rintro e w7 ⟨hk, a8, n8, c8, bs, q2, y2_, ok2, rfl, ho, hr, hs⟩
  have HK7 : Hid (Below w.heap.size w w7) := Lib.hid (Keeps.below HK6.out hk HK6.out.size (fun k h => by have h2 := HGE.out; omega))
  have HZ7 := Lib.hid (hk.blk HZ6.out HNE.out.1)
  have HL7 := Lib.hid (hk.blk HL6.out HNE.out.2.2)
  have HR7 := Lib.hid hr
  have HO7 : Hid (Bo w6.heap.size w7 a8 n8 c8 bs) := Lib.hid ho
  have HOB : Hid (fb < w6.heap.size ∧ rs < w6.heap.size) := Lib.hid ⟨HL6.out.lt, HZ6.out.lt⟩
  have HOW : Hid (w.heap.size ≤ w6.heap.size) := Lib.hid HK6.out.size
  have HC2 := Lib.hid hs
  clear hk hr hs ho
  clear HR6 HK6 HZ6 HL6
  have x8 : w7.cell? ⟨fb, 8, none⟩ = some (.slice none 0 0) := HL7.out.cell 8
  have y8 : w7.frozen? ⟨fb, 8, none⟩ = false := HL7.out.free 8
  go_wp2_with fail
  clear x8 y8
  have hkk : Keeps (fun k => k = fb) w7 (w7.setCell ⟨fb, 8, none⟩ (.slice a8 n8 c8)) := ((Keeps.refl (fun k => k = fb) w7).put 8 (.slice a8 n8 c8))
  have HL8 : Hid (Blk (w7.setCell ⟨fb, 8, none⟩ (.slice a8 n8 c8)) fb #[.int .u64 8, .int .u64 v1, .int .u64 0, .bool true, .int .u64 0, .int .u64 0, .int .u64 0, .slice none 0 0, .slice a8 n8 c8, .bool false, .bool false, .int .i64 0] 32) := Lib.hid ((HL7.out.set 8 (.slice a8 n8 c8)).as rfl)
  have HR8 := Lib.hid (HR7.out.keep hkk (fun h => HNE.out.2.2 h.symm) (fun b hb h => by have h1 := HLT.out b hb; have h2 := HGE.out; omega))
  have HK8 := Lib.hid (Keeps.below HK7.out hkk HK7.out.size (fun k h => by have h2 := HGE.out; omega))
  have HZ8 := Lib.hid (hkk.blk HZ7.out HNE.out.2.1)
  have HOF := (HO7.out.keep hkk (fun b hb h => by have h1 := (HO7.out.ge b hb).1; have h2 := HOB.out; omega)).mono HOB.out.1
  go_meet
  cases ok2 with
  | false => exact ⟨HZ8.out, HK8.out, .inr ⟨rfl, false, (⟨⟨8, v1, 0, true, 0, 0, 0, [], bs, false, false, 0⟩, none, 0, 0, a8, n8, c8⟩ : Qf), q2, y2_, HL8.out, HR8.out, fun h => (by cases h), fun _ => by rw [← HDD.out]; exact (show OptS true (decT _ ys1) (⟨8, v1, 0, true, 0, 0, 0, [], bs, false, false, 0⟩) _ _ from (by show OptS true (strD true false false ys1) _ _ _; unfold strD; exact OptS.bind HN1.out.opt (OptS.bind (OptS.ret _ _) (OptS.bind (OptS.rest HC2.out HLL.out) (OptS.ite _ _ (fun h => by rw [HC2.out.len h]; exact HG.out)))))).no⟩⟩
  | true => exact ⟨HZ8.out, HK8.out, .inr ⟨rfl, true, (⟨⟨8, v1, 0, true, 0, 0, 0, [], bs, false, false, 0⟩, none, 0, 0, a8, n8, c8⟩ : Qf), q2, y2_, HL8.out, HR8.out, fun _ => ⟨by rw [← HDD.out]; exact (show OptS true (decT _ ys1) (⟨8, v1, 0, true, 0, 0, 0, [], bs, false, false, 0⟩) _ _ from (by show OptS true (strD true false false ys1) _ _ _; unfold strD; exact OptS.bind HN1.out.opt (OptS.bind (OptS.ret _ _) (OptS.bind (OptS.rest HC2.out HLL.out) (OptS.ite _ _ (fun h => by rw [HC2.out.len h]; exact HG.out)))))).yes.2, Qn.bytes _ _ _ _ _ _ _ _ _ _ ⟨by omega, by omega⟩ ⟨HV1.out.1, by have := HV1.out; omega⟩ inU_0 inU_0 inU_0 _ _ _ _ HOF⟩, fun h => (by cases h)⟩⟩
 by_cases h10 : t = 10
 ·subst h10
  have b1 : bits .and .u64 10 1 = 0 := by decide +kernel
  have b4 : bits .and .u64 10 4 = 0 := by decide +kernel
  have b2 : bits .and .u64 10 2 = 2 := by decide +kernel
  have x0 : w3.cell? ⟨fb, 0, none⟩ = some (.int .u64 10) := HL3.out.cell 0
  have y0 : w3.frozen? ⟨fb, 0, none⟩ = false := HL3.out.free 0
  go_wp2_with fail
  clear x0 y0
  refine calls_named ?_
  intro w4 hw4
  have hkk : Keeps (fun k => k = fb) w3 w4 := by rw [← hw4]; exact ((Keeps.refl (fun k => k = fb) w3).put 0 (.int .u64 8))
  have HL4 : Hid (Blk w4 fb #[.int .u64 8, .int .u64 0, .int .u64 0, .bool false, .int .u64 0, .int .u64 0, .int .u64 0, .slice none 0 0, .slice none 0 0, .bool false, .bool false, .int .i64 0] 32) := Lib.hid (by rw [← hw4]; exact (HL3.out.set 0 (.int .u64 8)).as rfl)
  have HR4 := Lib.hid (HR3.out.keep hkk (fun h => HNE.out.2.2 h.symm) (fun b hb h => by have h1 := HLT.out b hb; have h2 := HGE.out; omega))
  have HK4 : Hid (Below w.heap.size w w4) := Lib.hid (Keeps.below HK3.out hkk HK3.out.size (fun k h => by have h2 := HGE.out; omega))
  have HZ4 := Lib.hid (hkk.blk HZ3.out HNE.out.2.1)
  clear hkk hw4
  clear HR3 HK3 HZ3 HL3
  refine (rnum_q rb _ m cap xs p1 ys1 true w4 HR4.out).mono ?_
  rintro e w5 ⟨hk, v1, q1, y1_, ok1, rfl, hr, hs⟩
  have HK5 : Hid (Below w.heap.size w w5) := Lib.hid (Keeps.below HK4.out hk HK4.out.size (fun k h => by have h2 := HGE.out; omega))
  have HZ5 := Lib.hid (hk.blk HZ4.out HNE.out.1)
  have HL5 := Lib.hid (hk.blk HL4.out HNE.out.2.2)
  have HR5 := Lib.hid hr
  have HN1 := Lib.hid hs
  have HV1 := Lib.hid hs.bd
  clear hk hr hs
  clear HR4 HK4 HZ4 HL4
  have x1 : w5.cell? ⟨fb, 1, none⟩ = some (.int .u64 0) := HL5.out.cell 1
  have x3 : w5.cell? ⟨fb, 3, none⟩ = some (.bool false) := HL5.out.cell 3
  have y1 : w5.frozen? ⟨fb, 1, none⟩ = false := HL5.out.free 1
  have y3 : w5.frozen? ⟨fb, 3, none⟩ = false := HL5.out.free 3
  go_upto_region 40 with fail
  clear x1 y1 x3 y3
  refine wp_named ?_
  intro w6 hw6
  have hkk : Keeps (fun k => k = fb) w5 w6 := by rw [← hw6]; exact (((Keeps.refl (fun k => k = fb) w5).put 1 (.int .u64 v1)).put 3 (.bool false))
  have HL6 : Hid (Blk w6 fb #[.int .u64 8, .int .u64 v1, .int .u64 0, .bool false, .int .u64 0, .int .u64 0, .int .u64 0, .slice none 0 0, .slice none 0 0, .bool false, .bool false, .int .i64 0] 32) := Lib.hid (by rw [← hw6]; exact ((HL5.out.set 1 (.int .u64 v1)).set 3 (.bool false)).as rfl)
  have HR6 := Lib.hid (HR5.out.keep hkk (fun h => HNE.out.2.2 h.symm) (fun b hb h => by have h1 := HLT.out b hb; have h2 := HGE.out; omega))
  have HK6 : Hid (Below w.heap.size w w6) := Lib.hid (Keeps.below HK5.out hkk HK5.out.size (fun k h => by have h2 := HGE.out; omega))
  have HZ6 := Lib.hid (hkk.blk HZ5.out HNE.out.2.1)
  clear hkk hw6
  clear HR5 HK5 HZ5 HL5
  have c0 : w6.cell? ⟨rb, 0, none⟩ = some (.slice (some ⟨ba, off, none⟩) m cap) := HR6.out.k.cells.1.1
  have c1 : w6.cell? ⟨rb, 1, none⟩ = some (.int .i64 (q1 : Int)) := HR6.out.k.cells.1.2.1
  have c2 : w6.cell? ⟨rb, 2, none⟩ = some (.bool ok1) := HR6.out.k.cells.1.2.2
  obtain ⟨L, hL⟩ : ∃ L : Nat, (m : Int) - (q1 : Int) = (L : Int) := ⟨m - q1, by have := HR6.out.le; omega⟩
  have HLL : Hid (L = y1_.length) := Lib.hid (by have h1 := HR6.out.len; have h2 := HR6.out.le; omega)
  have HLM : Hid (L ≤ 1000000) := Lib.hid (by have := HM.out; omega)
  have hwi : IntKind.i64.wrap (L : Int) = (L : Int) := by have := HLM.out; rw [IntKind.wrap_i64]; omega
  have hwu : IntKind.u64.wrap (L : Int) = (L : Int) := by have := HLM.out; rw [IntKind.wrap_u64]; omega
  go_upto_region 41 with fail
  clear c0 c1 c2 hL hwi hwu
  go_wp2_with fail
  refine (rnum_q rb _ m cap xs q1 y1_ ok1 w6 HR6.out).mono ?_
  rintro e w7 ⟨hk, v2, q2, y2_, ok2, rfl, hr, hs⟩
  have HK7 : Hid (Below w.heap.size w w7) := Lib.hid (Keeps.below HK6.out hk HK6.out.size (fun k h => by have h2 := HGE.out; omega))
  have HZ7 := Lib.hid (hk.blk HZ6.out HNE.out.1)
  have HL7 := Lib.hid (hk.blk HL6.out HNE.out.2.2)
  have HR7 := Lib.hid hr
  have HN2 := Lib.hid hs
  have HV2 := Lib.hid hs.bd
  clear hk hr hs
  clear HR6 HK6 HZ6 HL6
  obtain ⟨K2, hK⟩ : ∃ K : Nat, v2 = (K : Int) := ⟨v2.toNat, by have := HV2.out; omega⟩
  have HKK2 := Lib.hid hK
  subst hK
  by_cases hg : (K2 : Int) ≤ 4611686018427387903
  rotate_left
  ·have x2 : w7.cell? ⟨fb, 2, none⟩ = some (.int .u64 0) := HL7.out.cell 2
   have hgd : decide ((K2 : Int) ≤ 4611686018427387903) = false := decide_eq_false hg
   have HG : Hid (endB (0) K2 = false) := Lib.hid (by rw [endG _ _ (by omega)]; simpa using hgd)
   go_wp2_with fail
   clear x2 hgd hg
   refine (rcut_q rb _ m cap xs q2 y2_ ok2 K2 w7 HR7.out (by have := HV2.out; omega)).mono ?_
   rintro e w8 ⟨hk, a8, n8, c8, bs, q3, y3_, ok3, rfl, ho, hr, hs⟩
   have HK8 : Hid (Below w.heap.size w w8) := Lib.hid (Keeps.below HK7.out hk HK7.out.size (fun k h => by have h2 := HGE.out; omega))
   have HZ8 := Lib.hid (hk.blk HZ7.out HNE.out.1)
   have HL8 := Lib.hid (hk.blk HL7.out HNE.out.2.2)
   have HR8 := Lib.hid hr
   have HO8 : Hid (Bo w7.heap.size w8 a8 n8 c8 bs) := Lib.hid ho
   have HOB : Hid (fb < w7.heap.size ∧ rs < w7.heap.size) := Lib.hid ⟨HL7.out.lt, HZ7.out.lt⟩
   have HOW : Hid (w.heap.size ≤ w7.heap.size) := Lib.hid HK7.out.size
   have HC3 := Lib.hid hs
   clear hk hr hs ho
   clear HR7 HK7 HZ7 HL7
   have x8 : w8.cell? ⟨fb, 8, none⟩ = some (.slice none 0 0) := HL8.out.cell 8
   have y8 : w8.frozen? ⟨fb, 8, none⟩ = false := HL8.out.free 8
   go_wp2_with fail
   clear x8 y8
   have hkk : Keeps (fun k => k = fb) w8 (w8.setCell ⟨fb, 8, none⟩ (.slice a8 n8 c8)) := ((Keeps.refl (fun k => k = fb) w8).put 8 (.slice a8 n8 c8))
   have HL9 : Hid (Blk (w8.setCell ⟨fb, 8, none⟩ (.slice a8 n8 c8)) fb #[.int .u64 8, .int .u64 v1, .int .u64 0, .bool false, .int .u64 0, .int .u64 0, .int .u64 0, .slice none 0 0, .slice a8 n8 c8, .bool false, .bool false, .int .i64 0] 32) := Lib.hid ((HL8.out.set 8 (.slice a8 n8 c8)).as rfl)
   have HR9 := Lib.hid (HR8.out.keep hkk (fun h => HNE.out.2.2 h.symm) (fun b hb h => by have h1 := HLT.out b hb; have h2 := HGE.out; omega))
   have HK9 := Lib.hid (Keeps.below HK8.out hkk HK8.out.size (fun k h => by have h2 := HGE.out; omega))
   have HZ9 := Lib.hid (hkk.blk HZ8.out HNE.out.2.1)
   have HOF := (HO8.out.keep hkk (fun b hb h => by have h1 := (HO8.out.ge b hb).1; have h2 := HOB.out; omega)).mono HOB.out.1
   go_meet
   exact ⟨HZ9.out, HK9.out, .inl ⟨rfl, by rw [← HDD.out]; exact (show OptS true (decT _ ys1) (⟨8, v1, 0, false, 0, 0, 0, [], bs, false, false, 0⟩) ys1 false from (by show OptS true (strD false false true ys1) _ _ _; unfold strD; exact OptS.bind HN1.out.opt (OptS.bind (OptS.ret _ _) (OptS.noB _ _ (OptS.ptx HN2.out HC3.out rfl) (fun h => if_neg (by rw [HC3.out.len h, HG.out]; decide)))))).no⟩⟩
  have x2 : w7.cell? ⟨fb, 2, none⟩ = some (.int .u64 0) := HL7.out.cell 2
  have hgd : decide ((K2 : Int) ≤ 4611686018427387903) = true := decide_eq_true hg
  have HG : Hid (endB (0) K2 = true) := Lib.hid (by rw [endG _ _ (by omega)]; simpa using hgd)
  go_wp2_with fail
  clear x2 hgd hg
  refine (rcut_q rb _ m cap xs q2 y2_ ok2 K2 w7 HR7.out (by have := HV2.out; omega)).mono ?_
  rintro e w8 ⟨hk, a8, n8, c8, bs, q3, y3_, ok3, rfl, ho, hr, hs⟩
  have HK8 : Hid (Below w.heap.size w w8) := Lib.hid (Keeps.below HK7.out hk HK7.out.size (fun k h => by have h2 := HGE.out; omega))
  have HZ8 := Lib.hid (hk.blk HZ7.out HNE.out.1)
  have HL8 := Lib.hid (hk.blk HL7.out HNE.out.2.2)
  have HR8 := Lib.hid hr
  have HO8 : Hid (Bo w7.heap.size w8 a8 n8 c8 bs) := Lib.hid ho
  have HOB : Hid (fb < w7.heap.size ∧ rs < w7.heap.size) := Lib.hid ⟨HL7.out.lt, HZ7.out.lt⟩
  have HOW : Hid (w.heap.size ≤ w7.heap.size) := Lib.hid HK7.out.size
  have HC3 := Lib.hid hs
  clear hk hr hs ho
  clear HR7 HK7 HZ7 HL7
  have x8 : w8.cell? ⟨fb, 8, none⟩ = some (.slice none 0 0) := HL8.out.cell 8
  have y8 : w8.frozen? ⟨fb, 8, none⟩ = false := HL8.out.free 8
  go_wp2_with fail
  clear x8 y8
  have hkk : Keeps (fun k => k = fb) w8 (w8.setCell ⟨fb, 8, none⟩ (.slice a8 n8 c8)) := ((Keeps.refl (fun k => k = fb) w8).put 8 (.slice a8 n8 c8))
  have HL9 : Hid (Blk (w8.setCell ⟨fb, 8, none⟩ (.slice a8 n8 c8)) fb #[.int .u64 8, .int .u64 v1, .int .u64 0, .bool false, .int .u64 0, .int .u64 0, .int .u64 0, .slice none 0 0, .slice a8 n8 c8, .bool false, .bool false, .int .i64 0] 32) := Lib.hid ((HL8.out.set 8 (.slice a8 n8 c8)).as rfl)
  have HR9 := Lib.hid (HR8.out.keep hkk (fun h => HNE.out.2.2 h.symm) (fun b hb h => by have h1 := HLT.out b hb; have h2 := HGE.out; omega))
  have HK9 := Lib.hid (Keeps.below HK8.out hkk HK8.out.size (fun k h => by have h2 := HGE.out; omega))
  have HZ9 := Lib.hid (hkk.blk HZ8.out HNE.out.2.1)
  have HOF := (HO8.out.keep hkk (fun b hb h => by have h1 := (HO8.out.ge b hb).1; have h2 := HOB.out; omega)).mono HOB.out.1
  go_meet
  cases ok3 with
  | false => exact ⟨HZ9.out, HK9.out, .inr ⟨rfl, false, (⟨⟨8, v1, 0, false, 0, 0, 0, [], bs, false, false, 0⟩, none, 0, 0, a8, n8, c8⟩ : Qf), q3, y3_, HL9.out, HR9.out, fun h => (by cases h), fun _ => by rw [← HDD.out]; exact (show OptS true (decT _ ys1) (⟨8, v1, 0, false, 0, 0, 0, [], bs, false, false, 0⟩) _ _ from (by show OptS true (strD false false true ys1) _ _ _; unfold strD; exact OptS.bind HN1.out.opt (OptS.bind (OptS.ret _ _) (OptS.bind (OptS.ptx HN2.out HC3.out rfl) (OptS.ite _ _ (fun h => by rw [HC3.out.len h]; exact HG.out)))))).no⟩⟩
  | true => exact ⟨HZ9.out, HK9.out, .inr ⟨rfl, true, (⟨⟨8, v1, 0, false, 0, 0, 0, [], bs, false, false, 0⟩, none, 0, 0, a8, n8, c8⟩ : Qf), q3, y3_, HL9.out, HR9.out, fun _ => ⟨by rw [← HDD.out]; exact (show OptS true (decT _ ys1) (⟨8, v1, 0, false, 0, 0, 0, [], bs, false, false, 0⟩) _ _ from (by show OptS true (strD false false true ys1) _ _ _; unfold strD; exact OptS.bind HN1.out.opt (OptS.bind (OptS.ret _ _) (OptS.bind (OptS.ptx HN2.out HC3.out rfl) (OptS.ite _ _ (fun h => by rw [HC3.out.len h]; exact HG.out)))))).yes.2, Qn.bytes _ _ _ _ _ _ _ _ _ _ ⟨by omega, by omega⟩ ⟨HV1.out.1, by have := HV1.out; omega⟩ inU_0 inU_0 inU_0 _ _ _ _ HOF⟩, fun h => (by cases h)⟩⟩
 by_cases h11 : t = 11
 ·subst h11
  have b1 : bits .and .u64 11 1 = 1 := by decide +kernel
  have b4 : bits .and .u64 11 4 = 0 := by decide +kernel
  have b2 : bits .and .u64 11 2 = 2 := by decide +kernel
  have x0 : w3.cell? ⟨fb, 0, none⟩ = some (.int .u64 11) := HL3.out.cell 0
  have y0 : w3.frozen? ⟨fb, 0, none⟩ = false := HL3.out.free 0
  go_wp2_with fail
  clear x0 y0
  refine calls_named ?_
  intro w4 hw4
  have hkk : Keeps (fun k => k = fb) w3 w4 := by rw [← hw4]; exact ((Keeps.refl (fun k => k = fb) w3).put 0 (.int .u64 8))
  have HL4 : Hid (Blk w4 fb #[.int .u64 8, .int .u64 0, .int .u64 0, .bool false, .int .u64 0, .int .u64 0, .int .u64 0, .slice none 0 0, .slice none 0 0, .bool false, .bool false, .int .i64 0] 32) := Lib.hid (by rw [← hw4]; exact (HL3.out.set 0 (.int .u64 8)).as rfl)
  have HR4 := Lib.hid (HR3.out.keep hkk (fun h => HNE.out.2.2 h.symm) (fun b hb h => by have h1 := HLT.out b hb; have h2 := HGE.out; omega))
  have HK4 : Hid (Below w.heap.size w w4) := Lib.hid (Keeps.below HK3.out hkk HK3.out.size (fun k h => by have h2 := HGE.out; omega))
  have HZ4 := Lib.hid (hkk.blk HZ3.out HNE.out.2.1)
  clear hkk hw4
  clear HR3 HK3 HZ3 HL3
  refine (rnum_q rb _ m cap xs p1 ys1 true w4 HR4.out).mono ?_
  rintro e w5 ⟨hk, v1, q1, y1_, ok1, rfl, hr, hs⟩
  have HK5 : Hid (Below w.heap.size w w5) := Lib.hid (Keeps.below HK4.out hk HK4.out.size (fun k h => by have h2 := HGE.out; omega))
  have HZ5 := Lib.hid (hk.blk HZ4.out HNE.out.1)
  have HL5 := Lib.hid (hk.blk HL4.out HNE.out.2.2)
  have HR5 := Lib.hid hr
  have HN1 := Lib.hid hs
  have HV1 := Lib.hid hs.bd
  clear hk hr hs
  clear HR4 HK4 HZ4 HL4
  have x1 : w5.cell? ⟨fb, 1, none⟩ = some (.int .u64 0) := HL5.out.cell 1
  have x3 : w5.cell? ⟨fb, 3, none⟩ = some (.bool false) := HL5.out.cell 3
  have y1 : w5.frozen? ⟨fb, 1, none⟩ = false := HL5.out.free 1
  have y3 : w5.frozen? ⟨fb, 3, none⟩ = false := HL5.out.free 3
  go_upto_region 40 with fail
  clear x1 y1 x3 y3
  refine wp_named ?_
  intro w6 hw6
  have hkk : Keeps (fun k => k = fb) w5 w6 := by rw [← hw6]; exact (((Keeps.refl (fun k => k = fb) w5).put 1 (.int .u64 v1)).put 3 (.bool true))
  have HL6 : Hid (Blk w6 fb #[.int .u64 8, .int .u64 v1, .int .u64 0, .bool true, .int .u64 0, .int .u64 0, .int .u64 0, .slice none 0 0, .slice none 0 0, .bool false, .bool false, .int .i64 0] 32) := Lib.hid (by rw [← hw6]; exact ((HL5.out.set 1 (.int .u64 v1)).set 3 (.bool true)).as rfl)
  have HR6 := Lib.hid (HR5.out.keep hkk (fun h => HNE.out.2.2 h.symm) (fun b hb h => by have h1 := HLT.out b hb; have h2 := HGE.out; omega))
  have HK6 : Hid (Below w.heap.size w w6) := Lib.hid (Keeps.below HK5.out hkk HK5.out.size (fun k h => by have h2 := HGE.out; omega))
  have HZ6 := Lib.hid (hkk.blk HZ5.out HNE.out.2.1)
  clear hkk hw6
  clear HR5 HK5 HZ5 HL5
  have c0 : w6.cell? ⟨rb, 0, none⟩ = some (.slice (some ⟨ba, off, none⟩) m cap) := HR6.out.k.cells.1.1
  have c1 : w6.cell? ⟨rb, 1, none⟩ = some (.int .i64 (q1 : Int)) := HR6.out.k.cells.1.2.1
  have c2 : w6.cell? ⟨rb, 2, none⟩ = some (.bool ok1) := HR6.out.k.cells.1.2.2
  obtain ⟨L, hL⟩ : ∃ L : Nat, (m : Int) - (q1 : Int) = (L : Int) := ⟨m - q1, by have := HR6.out.le; omega⟩
  have HLL : Hid (L = y1_.length) := Lib.hid (by have h1 := HR6.out.len; have h2 := HR6.out.le; omega)
  have HLM : Hid (L ≤ 1000000) := Lib.hid (by have := HM.out; omega)
  have hwi : IntKind.i64.wrap (L : Int) = (L : Int) := by have := HLM.out; rw [IntKind.wrap_i64]; omega
  have hwu : IntKind.u64.wrap (L : Int) = (L : Int) := by have := HLM.out; rw [IntKind.wrap_u64]; omega
  go_upto_region 41 with fail
  clear c0 c1 c2 hL hwi hwu
  go_wp2_with fail
  refine (rnum_q rb _ m cap xs q1 y1_ ok1 w6 HR6.out).mono ?_
  rintro e w7 ⟨hk, v2, q2, y2_, ok2, rfl, hr, hs⟩
  have HK7 : Hid (Below w.heap.size w w7) := Lib.hid (Keeps.below HK6.out hk HK6.out.size (fun k h => by have h2 := HGE.out; omega))
  have HZ7 := Lib.hid (hk.blk HZ6.out HNE.out.1)
  have HL7 := Lib.hid (hk.blk HL6.out HNE.out.2.2)
  have HR7 := Lib.hid hr
  have HN2 := Lib.hid hs
  have HV2 := Lib.hid hs.bd
  clear hk hr hs
  clear HR6 HK6 HZ6 HL6
  obtain ⟨K2, hK⟩ : ∃ K : Nat, v2 = (K : Int) := ⟨v2.toNat, by have := HV2.out; omega⟩
  have HKK2 := Lib.hid hK
  subst hK
  by_cases hg : (K2 : Int) ≤ 4611686018427387903
  rotate_left
  ·have x2 : w7.cell? ⟨fb, 2, none⟩ = some (.int .u64 0) := HL7.out.cell 2
   have hgd : decide ((K2 : Int) ≤ 4611686018427387903) = false := decide_eq_false hg
   have HG : Hid (endB (0) K2 = false) := Lib.hid (by rw [endG _ _ (by omega)]; simpa using hgd)
   go_wp2_with fail
   clear x2 hgd hg
   refine (rcut_q rb _ m cap xs q2 y2_ ok2 K2 w7 HR7.out (by have := HV2.out; omega)).mono ?_
   rintro e w8 ⟨hk, a8, n8, c8, bs, q3, y3_, ok3, rfl, ho, hr, hs⟩
   have HK8 : Hid (Below w.heap.size w w8) := Lib.hid (Keeps.below HK7.out hk HK7.out.size (fun k h => by have h2 := HGE.out; omega))
   have HZ8 := Lib.hid (hk.blk HZ7.out HNE.out.1)
   have HL8 := Lib.hid (hk.blk HL7.out HNE.out.2.2)
   have HR8 := Lib.hid hr
   have HO8 : Hid (Bo w7.heap.size w8 a8 n8 c8 bs) := Lib.hid ho
   have HOB : Hid (fb < w7.heap.size ∧ rs < w7.heap.size) := Lib.hid ⟨HL7.out.lt, HZ7.out.lt⟩
   have HOW : Hid (w.heap.size ≤ w7.heap.size) := Lib.hid HK7.out.size
   have HC3 := Lib.hid hs
   clear hk hr hs ho
   clear HR7 HK7 HZ7 HL7
   have x8 : w8.cell? ⟨fb, 8, none⟩ = some (.slice none 0 0) := HL8.out.cell 8
   have y8 : w8.frozen? ⟨fb, 8, none⟩ = false := HL8.out.free 8
   go_wp2_with fail
   clear x8 y8
   have hkk : Keeps (fun k => k = fb) w8 (w8.setCell ⟨fb, 8, none⟩ (.slice a8 n8 c8)) := ((Keeps.refl (fun k => k = fb) w8).put 8 (.slice a8 n8 c8))
   have HL9 : Hid (Blk (w8.setCell ⟨fb, 8, none⟩ (.slice a8 n8 c8)) fb #[.int .u64 8, .int .u64 v1, .int .u64 0, .bool true, .int .u64 0, .int .u64 0, .int .u64 0, .slice none 0 0, .slice a8 n8 c8, .bool false, .bool false, .int .i64 0] 32) := Lib.hid ((HL8.out.set 8 (.slice a8 n8 c8)).as rfl)
   have HR9 := Lib.hid (HR8.out.keep hkk (fun h => HNE.out.2.2 h.symm) (fun b hb h => by have h1 := HLT.out b hb; have h2 := HGE.out; omega))
   have HK9 := Lib.hid (Keeps.below HK8.out hkk HK8.out.size (fun k h => by have h2 := HGE.out; omega))
   have HZ9 := Lib.hid (hkk.blk HZ8.out HNE.out.2.1)
   have HOF := (HO8.out.keep hkk (fun b hb h => by have h1 := (HO8.out.ge b hb).1; have h2 := HOB.out; omega)).mono HOB.out.1
   go_meet
   exact ⟨HZ9.out, HK9.out, .inl ⟨rfl, by rw [← HDD.out]; exact (show OptS true (decT _ ys1) (⟨8, v1, 0, true, 0, 0, 0, [], bs, false, false, 0⟩) ys1 false from (by show OptS true (strD true false true ys1) _ _ _; unfold strD; exact OptS.bind HN1.out.opt (OptS.bind (OptS.ret _ _) (OptS.noB _ _ (OptS.ptx HN2.out HC3.out rfl) (fun h => if_neg (by rw [HC3.out.len h, HG.out]; decide)))))).no⟩⟩
  have x2 : w7.cell? ⟨fb, 2, none⟩ = some (.int .u64 0) := HL7.out.cell 2
  have hgd : decide ((K2 : Int) ≤ 4611686018427387903) = true := decide_eq_true hg
  have HG : Hid (endB (0) K2 = true) := Lib.hid (by rw [endG _ _ (by omega)]; simpa using hgd)
  go_wp2_with fail
  clear x2 hgd hg
  refine (rcut_q rb _ m cap xs q2 y2_ ok2 K2 w7 HR7.out (by have := HV2.out; omega)).mono ?_
  rintro e w8 ⟨hk, a8, n8, c8, bs, q3, y3_, ok3, rfl, ho, hr, hs⟩
  have HK8 : Hid (Below w.heap.size w w8) := Lib.hid (Keeps.below HK7.out hk HK7.out.size (fun k h => by have h2 := HGE.out; omega))
  have HZ8 := Lib.hid (hk.blk HZ7.out HNE.out.1)
  have HL8 := Lib.hid (hk.blk HL7.out HNE.out.2.2)
  have HR8 := Lib.hid hr
  have HO8 : Hid (Bo w7.heap.size w8 a8 n8 c8 bs) := Lib.hid ho
  have HOB : Hid (fb < w7.heap.size ∧ rs < w7.heap.size) := Lib.hid ⟨HL7.out.lt, HZ7.out.lt⟩
  have HOW : Hid (w.heap.size ≤ w7.heap.size) := Lib.hid HK7.out.size
  have HC3 := Lib.hid hs
  clear hk hr hs ho
  clear HR7 HK7 HZ7 HL7
  have x8 : w8.cell? ⟨fb, 8, none⟩ = some (.slice none 0 0) := HL8.out.cell 8
  have y8 : w8.frozen? ⟨fb, 8, none⟩ = false := HL8.out.free 8
  go_wp2_with fail
  clear x8 y8
  have hkk : Keeps (fun k => k = fb) w8 (w8.setCell ⟨fb, 8, none⟩ (.slice a8 n8 c8)) := ((Keeps.refl (fun k => k = fb) w8).put 8 (.slice a8 n8 c8))
  have HL9 : Hid (Blk (w8.setCell ⟨fb, 8, none⟩ (.slice a8 n8 c8)) fb #[.int .u64 8, .int .u64 v1, .int .u64 0, .bool true, .int .u64 0, .int .u64 0, .int .u64 0, .slice none 0 0, .slice a8 n8 c8, .bool false, .bool false, .int .i64 0] 32) := Lib.hid ((HL8.out.set 8 (.slice a8 n8 c8)).as rfl)
  have HR9 := Lib.hid (HR8.out.keep hkk (fun h => HNE.out.2.2 h.symm) (fun b hb h => by have h1 := HLT.out b hb; have h2 := HGE.out; omega))
  have HK9 := Lib.hid (Keeps.below HK8.out hkk HK8.out.size (fun k h => by have h2 := HGE.out; omega))
  have HZ9 := Lib.hid (hkk.blk HZ8.out HNE.out.2.1)
  have HOF := (HO8.out.keep hkk (fun b hb h => by have h1 := (HO8.out.ge b hb).1; have h2 := HOB.out; omega)).mono HOB.out.1
  go_meet
  cases ok3 with
  | false => exact ⟨HZ9.out, HK9.out, .inr ⟨rfl, false, (⟨⟨8, v1, 0, true, 0, 0, 0, [], bs, false, false, 0⟩, none, 0, 0, a8, n8, c8⟩ : Qf), q3, y3_, HL9.out, HR9.out, fun h => (by cases h), fun _ => by rw [← HDD.out]; exact (show OptS true (decT _ ys1) (⟨8, v1, 0, true, 0, 0, 0, [], bs, false, false, 0⟩) _ _ from (by show OptS true (strD true false true ys1) _ _ _; unfold strD; exact OptS.bind HN1.out.opt (OptS.bind (OptS.ret _ _) (OptS.bind (OptS.ptx HN2.out HC3.out rfl) (OptS.ite _ _ (fun h => by rw [HC3.out.len h]; exact HG.out)))))).no⟩⟩
  | true => exact ⟨HZ9.out, HK9.out, .inr ⟨rfl, true, (⟨⟨8, v1, 0, true, 0, 0, 0, [], bs, false, false, 0⟩, none, 0, 0, a8, n8, c8⟩ : Qf), q3, y3_, HL9.out, HR9.out, fun _ => ⟨by rw [← HDD.out]; exact (show OptS true (decT _ ys1) (⟨8, v1, 0, true, 0, 0, 0, [], bs, false, false, 0⟩) _ _ from (by show OptS true (strD true false true ys1) _ _ _; unfold strD; exact OptS.bind HN1.out.opt (OptS.bind (OptS.ret _ _) (OptS.bind (OptS.ptx HN2.out HC3.out rfl) (OptS.ite _ _ (fun h => by rw [HC3.out.len h]; exact HG.out)))))).yes.2, Qn.bytes _ _ _ _ _ _ _ _ _ _ ⟨by omega, by omega⟩ ⟨HV1.out.1, by have := HV1.out; omega⟩ inU_0 inU_0 inU_0 _ _ _ _ HOF⟩, fun h => (by cases h)⟩⟩
 omega

set_option maxRecDepth 100000 in
set_option maxHeartbeats 100000000 in
theorem rt_b2 {ba off m cap : Nat} {xs ys1 : List UInt8} {t C V : Int} {p1 rs rb fb : Nat} {DD : Option (Qc × List UInt8)} {w w3 : World} (F : RfF ba off m cap xs ys1 t p1 rs rb fb DD w w3) (ht : 12 ≤ t ∧ t < 16) : rfR.1 ba off m cap xs ys1 t C V p1 rs rb fb DD w w3 := by
 have HLT := Lib.hid F.lt
 have HM := Lib.hid F.hm
 have HDD := Lib.hid F.dd
 have HR3 := Lib.hid F.r
 have HK3 := Lib.hid F.k
 have HZ3 := Lib.hid F.z
 have HL3 := Lib.hid F.l
 have HGE := Lib.hid F.ge
 have HNE := Lib.hid F.ne
 clear F
 intro J K' hJ hK
 by_cases h12 : t = 12
 ·subst h12
  have b1 : bits .and .u64 12 1 = 0 := by decide +kernel
  have b4 : bits .and .u64 12 4 = 4 := by decide +kernel
  have b2 : bits .and .u64 12 2 = 0 := by decide +kernel
  have x0 : w3.cell? ⟨fb, 0, none⟩ = some (.int .u64 12) := HL3.out.cell 0
  have y0 : w3.frozen? ⟨fb, 0, none⟩ = false := HL3.out.free 0
  go_wp2_with fail
  clear x0 y0
  refine calls_named ?_
  intro w4 hw4
  have hkk : Keeps (fun k => k = fb) w3 w4 := by rw [← hw4]; exact ((Keeps.refl (fun k => k = fb) w3).put 0 (.int .u64 8))
  have HL4 : Hid (Blk w4 fb #[.int .u64 8, .int .u64 0, .int .u64 0, .bool false, .int .u64 0, .int .u64 0, .int .u64 0, .slice none 0 0, .slice none 0 0, .bool false, .bool false, .int .i64 0] 32) := Lib.hid (by rw [← hw4]; exact (HL3.out.set 0 (.int .u64 8)).as rfl)
  have HR4 := Lib.hid (HR3.out.keep hkk (fun h => HNE.out.2.2 h.symm) (fun b hb h => by have h1 := HLT.out b hb; have h2 := HGE.out; omega))
  have HK4 : Hid (Below w.heap.size w w4) := Lib.hid (Keeps.below HK3.out hkk HK3.out.size (fun k h => by have h2 := HGE.out; omega))
  have HZ4 := Lib.hid (hkk.blk HZ3.out HNE.out.2.1)
  clear hkk hw4
  clear HR3 HK3 HZ3 HL3
  refine (rnum_q rb _ m cap xs p1 ys1 true w4 HR4.out).mono ?_
  rintro e w5 ⟨hk, v1, q1, y1_, ok1, rfl, hr, hs⟩
  have HK5 : Hid (Below w.heap.size w w5) := Lib.hid (Keeps.below HK4.out hk HK4.out.size (fun k h => by have h2 := HGE.out; omega))
  have HZ5 := Lib.hid (hk.blk HZ4.out HNE.out.1)
  have HL5 := Lib.hid (hk.blk HL4.out HNE.out.2.2)
  have HR5 := Lib.hid hr
  have HN1 := Lib.hid hs
  have HV1 := Lib.hid hs.bd
  clear hk hr hs
  clear HR4 HK4 HZ4 HL4
  have x1 : w5.cell? ⟨fb, 1, none⟩ = some (.int .u64 0) := HL5.out.cell 1
  have y1 : w5.frozen? ⟨fb, 1, none⟩ = false := HL5.out.free 1
  go_wp2_with fail
  clear x1 y1
  refine calls_named ?_
  intro w6 hw6
  have hkk : Keeps (fun k => k = fb) w5 w6 := by rw [← hw6]; exact ((Keeps.refl (fun k => k = fb) w5).put 1 (.int .u64 v1))
  have HL6 : Hid (Blk w6 fb #[.int .u64 8, .int .u64 v1, .int .u64 0, .bool false, .int .u64 0, .int .u64 0, .int .u64 0, .slice none 0 0, .slice none 0 0, .bool false, .bool false, .int .i64 0] 32) := Lib.hid (by rw [← hw6]; exact (HL5.out.set 1 (.int .u64 v1)).as rfl)
  have HR6 := Lib.hid (HR5.out.keep hkk (fun h => HNE.out.2.2 h.symm) (fun b hb h => by have h1 := HLT.out b hb; have h2 := HGE.out; omega))
  have HK6 : Hid (Below w.heap.size w w6) := Lib.hid (Keeps.below HK5.out hkk HK5.out.size (fun k h => by have h2 := HGE.out; omega))
  have HZ6 := Lib.hid (hkk.blk HZ5.out HNE.out.2.1)
  clear hkk hw6
  clear HR5 HK5 HZ5 HL5
  refine (rnum_q rb _ m cap xs q1 y1_ ok1 w6 HR6.out).mono ?_
  rintro e w7 ⟨hk, v2, q2, y2_, ok2, rfl, hr, hs⟩
  have HK7 : Hid (Below w.heap.size w w7) := Lib.hid (Keeps.below HK6.out hk HK6.out.size (fun k h => by have h2 := HGE.out; omega))
  have HZ7 := Lib.hid (hk.blk HZ6.out HNE.out.1)
  have HL7 := Lib.hid (hk.blk HL6.out HNE.out.2.2)
  have HR7 := Lib.hid hr
  have HN2 := Lib.hid hs
  have HV2 := Lib.hid hs.bd
  clear hk hr hs
  clear HR6 HK6 HZ6 HL6
  have x2 : w7.cell? ⟨fb, 2, none⟩ = some (.int .u64 0) := HL7.out.cell 2
  have x3 : w7.cell? ⟨fb, 3, none⟩ = some (.bool false) := HL7.out.cell 3
  have y2 : w7.frozen? ⟨fb, 2, none⟩ = false := HL7.out.free 2
  have y3 : w7.frozen? ⟨fb, 3, none⟩ = false := HL7.out.free 3
  go_upto_region 40 with fail
  clear x2 y2 x3 y3
  refine wp_named ?_
  intro w8 hw8
  have hkk : Keeps (fun k => k = fb) w7 w8 := by rw [← hw8]; exact (((Keeps.refl (fun k => k = fb) w7).put 2 (.int .u64 v2)).put 3 (.bool false))
  have HL8 : Hid (Blk w8 fb #[.int .u64 8, .int .u64 v1, .int .u64 v2, .bool false, .int .u64 0, .int .u64 0, .int .u64 0, .slice none 0 0, .slice none 0 0, .bool false, .bool false, .int .i64 0] 32) := Lib.hid (by rw [← hw8]; exact ((HL7.out.set 2 (.int .u64 v2)).set 3 (.bool false)).as rfl)
  have HR8 := Lib.hid (HR7.out.keep hkk (fun h => HNE.out.2.2 h.symm) (fun b hb h => by have h1 := HLT.out b hb; have h2 := HGE.out; omega))
  have HK8 : Hid (Below w.heap.size w w8) := Lib.hid (Keeps.below HK7.out hkk HK7.out.size (fun k h => by have h2 := HGE.out; omega))
  have HZ8 := Lib.hid (hkk.blk HZ7.out HNE.out.2.1)
  clear hkk hw8
  clear HR7 HK7 HZ7 HL7
  have c0 : w8.cell? ⟨rb, 0, none⟩ = some (.slice (some ⟨ba, off, none⟩) m cap) := HR8.out.k.cells.1.1
  have c1 : w8.cell? ⟨rb, 1, none⟩ = some (.int .i64 (q2 : Int)) := HR8.out.k.cells.1.2.1
  have c2 : w8.cell? ⟨rb, 2, none⟩ = some (.bool ok2) := HR8.out.k.cells.1.2.2
  obtain ⟨L, hL⟩ : ∃ L : Nat, (m : Int) - (q2 : Int) = (L : Int) := ⟨m - q2, by have := HR8.out.le; omega⟩
  have HLL : Hid (L = y2_.length) := Lib.hid (by have h1 := HR8.out.len; have h2 := HR8.out.le; omega)
  have HLM : Hid (L ≤ 1000000) := Lib.hid (by have := HM.out; omega)
  have hwi : IntKind.i64.wrap (L : Int) = (L : Int) := by have := HLM.out; rw [IntKind.wrap_i64]; omega
  have hwu : IntKind.u64.wrap (L : Int) = (L : Int) := by have := HLM.out; rw [IntKind.wrap_u64]; omega
  go_upto_region 41 with fail
  clear c0 c1 c2 hL hwi hwu
  have hvo := HV2.out
  by_cases hg : (L : Int) ≤ 4611686018427387903 - v2
  rotate_left
  ·have x2 : w8.cell? ⟨fb, 2, none⟩ = some (.int .u64 v2) := HL8.out.cell 2
   have hgd : decide ((L : Int) ≤ 4611686018427387903 - v2) = false := decide_eq_false hg
   have HG : Hid (endB (v2) L = false) := Lib.hid (by rw [endG _ _ (by omega)]; exact hgd)
   go_wp2_with fail
   clear x2 hgd hg
   refine (rcut_q rb _ m cap xs q2 y2_ ok2 L w8 HR8.out (by have := HLM.out; omega)).mono ?_
   rintro e w9 ⟨hk, a8, n8, c8, bs, q3, y3_, ok3, rfl, ho, hr, hs⟩
   have HK9 : Hid (Below w.heap.size w w9) := Lib.hid (Keeps.below HK8.out hk HK8.out.size (fun k h => by have h2 := HGE.out; omega))
   have HZ9 := Lib.hid (hk.blk HZ8.out HNE.out.1)
   have HL9 := Lib.hid (hk.blk HL8.out HNE.out.2.2)
   have HR9 := Lib.hid hr
   have HO9 : Hid (Bo w8.heap.size w9 a8 n8 c8 bs) := Lib.hid ho
   have HOB : Hid (fb < w8.heap.size ∧ rs < w8.heap.size) := Lib.hid ⟨HL8.out.lt, HZ8.out.lt⟩
   have HOW : Hid (w.heap.size ≤ w8.heap.size) := Lib.hid HK8.out.size
   have HC3 := Lib.hid hs
   clear hk hr hs ho
   clear HR8 HK8 HZ8 HL8
   have x8 : w9.cell? ⟨fb, 8, none⟩ = some (.slice none 0 0) := HL9.out.cell 8
   have y8 : w9.frozen? ⟨fb, 8, none⟩ = false := HL9.out.free 8
   go_wp2_with fail
   clear x8 y8
   have hkk : Keeps (fun k => k = fb) w9 (w9.setCell ⟨fb, 8, none⟩ (.slice a8 n8 c8)) := ((Keeps.refl (fun k => k = fb) w9).put 8 (.slice a8 n8 c8))
   have HL10 : Hid (Blk (w9.setCell ⟨fb, 8, none⟩ (.slice a8 n8 c8)) fb #[.int .u64 8, .int .u64 v1, .int .u64 v2, .bool false, .int .u64 0, .int .u64 0, .int .u64 0, .slice none 0 0, .slice a8 n8 c8, .bool false, .bool false, .int .i64 0] 32) := Lib.hid ((HL9.out.set 8 (.slice a8 n8 c8)).as rfl)
   have HR10 := Lib.hid (HR9.out.keep hkk (fun h => HNE.out.2.2 h.symm) (fun b hb h => by have h1 := HLT.out b hb; have h2 := HGE.out; omega))
   have HK10 := Lib.hid (Keeps.below HK9.out hkk HK9.out.size (fun k h => by have h2 := HGE.out; omega))
   have HZ10 := Lib.hid (hkk.blk HZ9.out HNE.out.2.1)
   have HOF := (HO9.out.keep hkk (fun b hb h => by have h1 := (HO9.out.ge b hb).1; have h2 := HOB.out; omega)).mono HOB.out.1
   go_meet
   exact ⟨HZ10.out, HK10.out, .inl ⟨rfl, by rw [← HDD.out]; exact (show OptS true (decT _ ys1) (⟨8, v1, v2, false, 0, 0, 0, [], bs, false, false, 0⟩) ys1 false from (by show OptS true (strD false true false ys1) _ _ _; unfold strD; exact OptS.bind HN1.out.opt (OptS.bind HN2.out.opt (OptS.noB _ _ (OptS.rest HC3.out HLL.out) (fun h => if_neg (by rw [HC3.out.len h, HG.out]; decide)))))).no⟩⟩
  have x2 : w8.cell? ⟨fb, 2, none⟩ = some (.int .u64 v2) := HL8.out.cell 2
  have hgd : decide ((L : Int) ≤ 4611686018427387903 - v2) = true := decide_eq_true hg
  have HG : Hid (endB (v2) L = true) := Lib.hid (by rw [endG _ _ (by omega)]; exact hgd)
  go_wp2_with fail
  clear x2 hgd hg
  refine (rcut_q rb _ m cap xs q2 y2_ ok2 L w8 HR8.out (by have := HLM.out; omega)).mono ?_
  rintro e w9 ⟨hk, a8, n8, c8, bs, q3, y3_, ok3, rfl, ho, hr, hs⟩
  have HK9 : Hid (Below w.heap.size w w9) := Lib.hid (Keeps.below HK8.out hk HK8.out.size (fun k h => by have h2 := HGE.out; omega))
  have HZ9 := Lib.hid (hk.blk HZ8.out HNE.out.1)
  have HL9 := Lib.hid (hk.blk HL8.out HNE.out.2.2)
  have HR9 := Lib.hid hr
  have HO9 : Hid (Bo w8.heap.size w9 a8 n8 c8 bs) := Lib.hid ho
  have HOB : Hid (fb < w8.heap.size ∧ rs < w8.heap.size) := Lib.hid ⟨HL8.out.lt, HZ8.out.lt⟩
  have HOW : Hid (w.heap.size ≤ w8.heap.size) := Lib.hid HK8.out.size
  have HC3 := Lib.hid hs
  clear hk hr hs ho
  clear HR8 HK8 HZ8 HL8
  have x8 : w9.cell? ⟨fb, 8, none⟩ = some (.slice none 0 0) := HL9.out.cell 8
  have y8 : w9.frozen? ⟨fb, 8, none⟩ = false := HL9.out.free 8
  go_wp2_with fail
  clear x8 y8
  have hkk : Keeps (fun k => k = fb) w9 (w9.setCell ⟨fb, 8, none⟩ (.slice a8 n8 c8)) := ((Keeps.refl (fun k => k = fb) w9).put 8 (.slice a8 n8 c8))
  have HL10 : Hid (Blk (w9.setCell ⟨fb, 8, none⟩ (.slice a8 n8 c8)) fb #[.int .u64 8, .int .u64 v1, .int .u64 v2, .bool false, .int .u64 0, .int .u64 0, .int .u64 0, .slice none 0 0, .slice a8 n8 c8, .bool false, .bool false, .int .i64 0] 32) := Lib.hid ((HL9.out.set 8 (.slice a8 n8 c8)).as rfl)
  have HR10 := Lib.hid (HR9.out.keep hkk (fun h => HNE.out.2.2 h.symm) (fun b hb h => by have h1 := HLT.out b hb; have h2 := HGE.out; omega))
  have HK10 := Lib.hid (Keeps.below HK9.out hkk HK9.out.size (fun k h => by have h2 := HGE.out; omega))
  have HZ10 := Lib.hid (hkk.blk HZ9.out HNE.out.2.1)
  have HOF := (HO9.out.keep hkk (fun b hb h => by have h1 := (HO9.out.ge b hb).1; have h2 := HOB.out; omega)).mono HOB.out.1
  go_meet
  cases ok3 with
  | false => exact ⟨HZ10.out, HK10.out, .inr ⟨rfl, false, (⟨⟨8, v1, v2, false, 0, 0, 0, [], bs, false, false, 0⟩, none, 0, 0, a8, n8, c8⟩ : Qf), q3, y3_, HL10.out, HR10.out, fun h => (by cases h), fun _ => by rw [← HDD.out]; exact (show OptS true (decT _ ys1) (⟨8, v1, v2, false, 0, 0, 0, [], bs, false, false, 0⟩) _ _ from (by show OptS true (strD false true false ys1) _ _ _; unfold strD; exact OptS.bind HN1.out.opt (OptS.bind HN2.out.opt (OptS.bind (OptS.rest HC3.out HLL.out) (OptS.ite _ _ (fun h => by rw [HC3.out.len h]; exact HG.out)))))).no⟩⟩
  | true => exact ⟨HZ10.out, HK10.out, .inr ⟨rfl, true, (⟨⟨8, v1, v2, false, 0, 0, 0, [], bs, false, false, 0⟩, none, 0, 0, a8, n8, c8⟩ : Qf), q3, y3_, HL10.out, HR10.out, fun _ => ⟨by rw [← HDD.out]; exact (show OptS true (decT _ ys1) (⟨8, v1, v2, false, 0, 0, 0, [], bs, false, false, 0⟩) _ _ from (by show OptS true (strD false true false ys1) _ _ _; unfold strD; exact OptS.bind HN1.out.opt (OptS.bind HN2.out.opt (OptS.bind (OptS.rest HC3.out HLL.out) (OptS.ite _ _ (fun h => by rw [HC3.out.len h]; exact HG.out)))))).yes.2, Qn.bytes _ _ _ _ _ _ _ _ _ _ ⟨by omega, by omega⟩ ⟨HV1.out.1, by have := HV1.out; omega⟩ ⟨HV2.out.1, by have := HV2.out; omega⟩ inU_0 inU_0 _ _ _ _ HOF⟩, fun h => (by cases h)⟩⟩
 by_cases h13 : t = 13
 ·subst h13
  have b1 : bits .and .u64 13 1 = 1 := by decide +kernel
  have b4 : bits .and .u64 13 4 = 4 := by decide +kernel
  have b2 : bits .and .u64 13 2 = 0 := by decide +kernel
  have x0 : w3.cell? ⟨fb, 0, none⟩ = some (.int .u64 13) := HL3.out.cell 0
  have y0 : w3.frozen? ⟨fb, 0, none⟩ = false := HL3.out.free 0
  go_wp2_with fail
  clear x0 y0
  refine calls_named ?_
  intro w4 hw4
  have hkk : Keeps (fun k => k = fb) w3 w4 := by rw [← hw4]; exact ((Keeps.refl (fun k => k = fb) w3).put 0 (.int .u64 8))
  have HL4 : Hid (Blk w4 fb #[.int .u64 8, .int .u64 0, .int .u64 0, .bool false, .int .u64 0, .int .u64 0, .int .u64 0, .slice none 0 0, .slice none 0 0, .bool false, .bool false, .int .i64 0] 32) := Lib.hid (by rw [← hw4]; exact (HL3.out.set 0 (.int .u64 8)).as rfl)
  have HR4 := Lib.hid (HR3.out.keep hkk (fun h => HNE.out.2.2 h.symm) (fun b hb h => by have h1 := HLT.out b hb; have h2 := HGE.out; omega))
  have HK4 : Hid (Below w.heap.size w w4) := Lib.hid (Keeps.below HK3.out hkk HK3.out.size (fun k h => by have h2 := HGE.out; omega))
  have HZ4 := Lib.hid (hkk.blk HZ3.out HNE.out.2.1)
  clear hkk hw4
  clear HR3 HK3 HZ3 HL3
  refine (rnum_q rb _ m cap xs p1 ys1 true w4 HR4.out).mono ?_
  rintro e w5 ⟨hk, v1, q1, y1_, ok1, rfl, hr, hs⟩
  have HK5 : Hid (Below w.heap.size w w5) := Lib.hid (Keeps.below HK4.out hk HK4.out.size (fun k h => by have h2 := HGE.out; omega))
  have HZ5 := Lib.hid (hk.blk HZ4.out HNE.out.1)
  have HL5 := Lib.hid (hk.blk HL4.out HNE.out.2.2)
  have HR5 := Lib.hid hr
  have HN1 := Lib.hid hs
  have HV1 := Lib.hid hs.bd
  clear hk hr hs
  clear HR4 HK4 HZ4 HL4
  have x1 : w5.cell? ⟨fb, 1, none⟩ = some (.int .u64 0) := HL5.out.cell 1
  have y1 : w5.frozen? ⟨fb, 1, none⟩ = false := HL5.out.free 1
  go_wp2_with fail
  clear x1 y1
  refine calls_named ?_
  intro w6 hw6
  have hkk : Keeps (fun k => k = fb) w5 w6 := by rw [← hw6]; exact ((Keeps.refl (fun k => k = fb) w5).put 1 (.int .u64 v1))
  have HL6 : Hid (Blk w6 fb #[.int .u64 8, .int .u64 v1, .int .u64 0, .bool false, .int .u64 0, .int .u64 0, .int .u64 0, .slice none 0 0, .slice none 0 0, .bool false, .bool false, .int .i64 0] 32) := Lib.hid (by rw [← hw6]; exact (HL5.out.set 1 (.int .u64 v1)).as rfl)
  have HR6 := Lib.hid (HR5.out.keep hkk (fun h => HNE.out.2.2 h.symm) (fun b hb h => by have h1 := HLT.out b hb; have h2 := HGE.out; omega))
  have HK6 : Hid (Below w.heap.size w w6) := Lib.hid (Keeps.below HK5.out hkk HK5.out.size (fun k h => by have h2 := HGE.out; omega))
  have HZ6 := Lib.hid (hkk.blk HZ5.out HNE.out.2.1)
  clear hkk hw6
  clear HR5 HK5 HZ5 HL5
  refine (rnum_q rb _ m cap xs q1 y1_ ok1 w6 HR6.out).mono ?_
  rintro e w7 ⟨hk, v2, q2, y2_, ok2, rfl, hr, hs⟩
  have HK7 : Hid (Below w.heap.size w w7) := Lib.hid (Keeps.below HK6.out hk HK6.out.size (fun k h => by have h2 := HGE.out; omega))
  have HZ7 := Lib.hid (hk.blk HZ6.out HNE.out.1)
  have HL7 := Lib.hid (hk.blk HL6.out HNE.out.2.2)
  have HR7 := Lib.hid hr
  have HN2 := Lib.hid hs
  have HV2 := Lib.hid hs.bd
  clear hk hr hs
  clear HR6 HK6 HZ6 HL6
  have x2 : w7.cell? ⟨fb, 2, none⟩ = some (.int .u64 0) := HL7.out.cell 2
  have x3 : w7.cell? ⟨fb, 3, none⟩ = some (.bool false) := HL7.out.cell 3
  have y2 : w7.frozen? ⟨fb, 2, none⟩ = false := HL7.out.free 2
  have y3 : w7.frozen? ⟨fb, 3, none⟩ = false := HL7.out.free 3
  go_upto_region 40 with fail
  clear x2 y2 x3 y3
  refine wp_named ?_
  intro w8 hw8
  have hkk : Keeps (fun k => k = fb) w7 w8 := by rw [← hw8]; exact (((Keeps.refl (fun k => k = fb) w7).put 2 (.int .u64 v2)).put 3 (.bool true))
  have HL8 : Hid (Blk w8 fb #[.int .u64 8, .int .u64 v1, .int .u64 v2, .bool true, .int .u64 0, .int .u64 0, .int .u64 0, .slice none 0 0, .slice none 0 0, .bool false, .bool false, .int .i64 0] 32) := Lib.hid (by rw [← hw8]; exact ((HL7.out.set 2 (.int .u64 v2)).set 3 (.bool true)).as rfl)
  have HR8 := Lib.hid (HR7.out.keep hkk (fun h => HNE.out.2.2 h.symm) (fun b hb h => by have h1 := HLT.out b hb; have h2 := HGE.out; omega))
  have HK8 : Hid (Below w.heap.size w w8) := Lib.hid (Keeps.below HK7.out hkk HK7.out.size (fun k h => by have h2 := HGE.out; omega))
  have HZ8 := Lib.hid (hkk.blk HZ7.out HNE.out.2.1)
  clear hkk hw8
  clear HR7 HK7 HZ7 HL7
  have c0 : w8.cell? ⟨rb, 0, none⟩ = some (.slice (some ⟨ba, off, none⟩) m cap) := HR8.out.k.cells.1.1
  have c1 : w8.cell? ⟨rb, 1, none⟩ = some (.int .i64 (q2 : Int)) := HR8.out.k.cells.1.2.1
  have c2 : w8.cell? ⟨rb, 2, none⟩ = some (.bool ok2) := HR8.out.k.cells.1.2.2
  obtain ⟨L, hL⟩ : ∃ L : Nat, (m : Int) - (q2 : Int) = (L : Int) := ⟨m - q2, by have := HR8.out.le; omega⟩
  have HLL : Hid (L = y2_.length) := Lib.hid (by have h1 := HR8.out.len; have h2 := HR8.out.le; omega)
  have HLM : Hid (L ≤ 1000000) := Lib.hid (by have := HM.out; omega)
  have hwi : IntKind.i64.wrap (L : Int) = (L : Int) := by have := HLM.out; rw [IntKind.wrap_i64]; omega
  have hwu : IntKind.u64.wrap (L : Int) = (L : Int) := by have := HLM.out; rw [IntKind.wrap_u64]; omega
  go_upto_region 41 with fail
  clear c0 c1 c2 hL hwi hwu
  have hvo := HV2.out
  by_cases hg : (L : Int) ≤ 4611686018427387903 - v2
  rotate_left
  ·have x2 : w8.cell? ⟨fb, 2, none⟩ = some (.int .u64 v2) := HL8.out.cell 2
   have hgd : decide ((L : Int) ≤ 4611686018427387903 - v2) = false := decide_eq_false hg
   have HG : Hid (endB (v2) L = false) := Lib.hid (by rw [endG _ _ (by omega)]; exact hgd)
   go_wp2_with fail
   clear x2 hgd hg
   refine (rcut_q rb _ m cap xs q2 y2_ ok2 L w8 HR8.out (by have := HLM.out; omega)).mono ?_
   rintro e w9 ⟨hk, a8, n8, c8, bs, q3, y3_, ok3, rfl, ho, hr, hs⟩
   have HK9 : Hid (Below w.heap.size w w9) := Lib.hid (Keeps.below HK8.out hk HK8.out.size (fun k h => by have h2 := HGE.out; omega))
   have HZ9 := Lib.hid (hk.blk HZ8.out HNE.out.1)
   have HL9 := Lib.hid (hk.blk HL8.out HNE.out.2.2)
   have HR9 := Lib.hid hr
   have HO9 : Hid (Bo w8.heap.size w9 a8 n8 c8 bs) := Lib.hid ho
   have HOB : Hid (fb < w8.heap.size ∧ rs < w8.heap.size) := Lib.hid ⟨HL8.out.lt, HZ8.out.lt⟩
   have HOW : Hid (w.heap.size ≤ w8.heap.size) := Lib.hid HK8.out.size
   have HC3 := Lib.hid hs
   clear hk hr hs ho
   clear HR8 HK8 HZ8 HL8
   have x8 : w9.cell? ⟨fb, 8, none⟩ = some (.slice none 0 0) := HL9.out.cell 8
   have y8 : w9.frozen? ⟨fb, 8, none⟩ = false := HL9.out.free 8
   go_wp2_with fail
   clear x8 y8
   have hkk : Keeps (fun k => k = fb) w9 (w9.setCell ⟨fb, 8, none⟩ (.slice a8 n8 c8)) := ((Keeps.refl (fun k => k = fb) w9).put 8 (.slice a8 n8 c8))
   have HL10 : Hid (Blk (w9.setCell ⟨fb, 8, none⟩ (.slice a8 n8 c8)) fb #[.int .u64 8, .int .u64 v1, .int .u64 v2, .bool true, .int .u64 0, .int .u64 0, .int .u64 0, .slice none 0 0, .slice a8 n8 c8, .bool false, .bool false, .int .i64 0] 32) := Lib.hid ((HL9.out.set 8 (.slice a8 n8 c8)).as rfl)
   have HR10 := Lib.hid (HR9.out.keep hkk (fun h => HNE.out.2.2 h.symm) (fun b hb h => by have h1 := HLT.out b hb; have h2 := HGE.out; omega))
   have HK10 := Lib.hid (Keeps.below HK9.out hkk HK9.out.size (fun k h => by have h2 := HGE.out; omega))
   have HZ10 := Lib.hid (hkk.blk HZ9.out HNE.out.2.1)
   have HOF := (HO9.out.keep hkk (fun b hb h => by have h1 := (HO9.out.ge b hb).1; have h2 := HOB.out; omega)).mono HOB.out.1
   go_meet
   exact ⟨HZ10.out, HK10.out, .inl ⟨rfl, by rw [← HDD.out]; exact (show OptS true (decT _ ys1) (⟨8, v1, v2, true, 0, 0, 0, [], bs, false, false, 0⟩) ys1 false from (by show OptS true (strD true true false ys1) _ _ _; unfold strD; exact OptS.bind HN1.out.opt (OptS.bind HN2.out.opt (OptS.noB _ _ (OptS.rest HC3.out HLL.out) (fun h => if_neg (by rw [HC3.out.len h, HG.out]; decide)))))).no⟩⟩
  have x2 : w8.cell? ⟨fb, 2, none⟩ = some (.int .u64 v2) := HL8.out.cell 2
  have hgd : decide ((L : Int) ≤ 4611686018427387903 - v2) = true := decide_eq_true hg
  have HG : Hid (endB (v2) L = true) := Lib.hid (by rw [endG _ _ (by omega)]; exact hgd)
  go_wp2_with fail
  clear x2 hgd hg
  refine (rcut_q rb _ m cap xs q2 y2_ ok2 L w8 HR8.out (by have := HLM.out; omega)).mono ?_
  rintro e w9 ⟨hk, a8, n8, c8, bs, q3, y3_, ok3, rfl, ho, hr, hs⟩
  have HK9 : Hid (Below w.heap.size w w9) := Lib.hid (Keeps.below HK8.out hk HK8.out.size (fun k h => by have h2 := HGE.out; omega))
  have HZ9 := Lib.hid (hk.blk HZ8.out HNE.out.1)
  have HL9 := Lib.hid (hk.blk HL8.out HNE.out.2.2)
  have HR9 := Lib.hid hr
  have HO9 : Hid (Bo w8.heap.size w9 a8 n8 c8 bs) := Lib.hid ho
  have HOB : Hid (fb < w8.heap.size ∧ rs < w8.heap.size) := Lib.hid ⟨HL8.out.lt, HZ8.out.lt⟩
  have HOW : Hid (w.heap.size ≤ w8.heap.size) := Lib.hid HK8.out.size
  have HC3 := Lib.hid hs
  clear hk hr hs ho
  clear HR8 HK8 HZ8 HL8
  have x8 : w9.cell? ⟨fb, 8, none⟩ = some (.slice none 0 0) := HL9.out.cell 8
  have y8 : w9.frozen? ⟨fb, 8, none⟩ = false := HL9.out.free 8
  go_wp2_with fail
  clear x8 y8
  have hkk : Keeps (fun k => k = fb) w9 (w9.setCell ⟨fb, 8, none⟩ (.slice a8 n8 c8)) := ((Keeps.refl (fun k => k = fb) w9).put 8 (.slice a8 n8 c8))
  have HL10 : Hid (Blk (w9.setCell ⟨fb, 8, none⟩ (.slice a8 n8 c8)) fb #[.int .u64 8, .int .u64 v1, .int .u64 v2, .bool true, .int .u64 0, .int .u64 0, .int .u64 0, .slice none 0 0, .slice a8 n8 c8, .bool false, .bool false, .int .i64 0] 32) := Lib.hid ((HL9.out.set 8 (.slice a8 n8 c8)).as rfl)
  have HR10 := Lib.hid (HR9.out.keep hkk (fun h => HNE.out.2.2 h.symm) (fun b hb h => by have h1 := HLT.out b hb; have h2 := HGE.out; omega))
  have HK10 := Lib.hid (Keeps.below HK9.out hkk HK9.out.size (fun k h => by have h2 := HGE.out; omega))
  have HZ10 := Lib.hid (hkk.blk HZ9.out HNE.out.2.1)
  have HOF := (HO9.out.keep hkk (fun b hb h => by have h1 := (HO9.out.ge b hb).1; have h2 := HOB.out; omega)).mono HOB.out.1
  go_meet
  cases ok3 with
  | false => exact ⟨HZ10.out, HK10.out, .inr ⟨rfl, false, (⟨⟨8, v1, v2, true, 0, 0, 0, [], bs, false, false, 0⟩, none, 0, 0, a8, n8, c8⟩ : Qf), q3, y3_, HL10.out, HR10.out, fun h => (by cases h), fun _ => by rw [← HDD.out]; exact (show OptS true (decT _ ys1) (⟨8, v1, v2, true, 0, 0, 0, [], bs, false, false, 0⟩) _ _ from (by show OptS true (strD true true false ys1) _ _ _; unfold strD; exact OptS.bind HN1.out.opt (OptS.bind HN2.out.opt (OptS.bind (OptS.rest HC3.out HLL.out) (OptS.ite _ _ (fun h => by rw [HC3.out.len h]; exact HG.out)))))).no⟩⟩
  | true => exact ⟨HZ10.out, HK10.out, .inr ⟨rfl, true, (⟨⟨8, v1, v2, true, 0, 0, 0, [], bs, false, false, 0⟩, none, 0, 0, a8, n8, c8⟩ : Qf), q3, y3_, HL10.out, HR10.out, fun _ => ⟨by rw [← HDD.out]; exact (show OptS true (decT _ ys1) (⟨8, v1, v2, true, 0, 0, 0, [], bs, false, false, 0⟩) _ _ from (by show OptS true (strD true true false ys1) _ _ _; unfold strD; exact OptS.bind HN1.out.opt (OptS.bind HN2.out.opt (OptS.bind (OptS.rest HC3.out HLL.out) (OptS.ite _ _ (fun h => by rw [HC3.out.len h]; exact HG.out)))))).yes.2, Qn.bytes _ _ _ _ _ _ _ _ _ _ ⟨by omega, by omega⟩ ⟨HV1.out.1, by have := HV1.out; omega⟩ ⟨HV2.out.1, by have := HV2.out; omega⟩ inU_0 inU_0 _ _ _ _ HOF⟩, fun h => (by cases h)⟩⟩
 by_cases h14 : t = 14
 ·subst h14
  have b1 : bits .and .u64 14 1 = 0 := by decide +kernel
  have b4 : bits .and .u64 14 4 = 4 := by decide +kernel
  have b2 : bits .and .u64 14 2 = 2 := by decide +kernel
  have x0 : w3.cell? ⟨fb, 0, none⟩ = some (.int .u64 14) := HL3.out.cell 0
  have y0 : w3.frozen? ⟨fb, 0, none⟩ = false := HL3.out.free 0
  go_wp2_with fail
  clear x0 y0
  refine calls_named ?_
  intro w4 hw4
  have hkk : Keeps (fun k => k = fb) w3 w4 := by rw [← hw4]; exact ((Keeps.refl (fun k => k = fb) w3).put 0 (.int .u64 8))
  have HL4 : Hid (Blk w4 fb #[.int .u64 8, .int .u64 0, .int .u64 0, .bool false, .int .u64 0, .int .u64 0, .int .u64 0, .slice none 0 0, .slice none 0 0, .bool false, .bool false, .int .i64 0] 32) := Lib.hid (by rw [← hw4]; exact (HL3.out.set 0 (.int .u64 8)).as rfl)
  have HR4 := Lib.hid (HR3.out.keep hkk (fun h => HNE.out.2.2 h.symm) (fun b hb h => by have h1 := HLT.out b hb; have h2 := HGE.out; omega))
  have HK4 : Hid (Below w.heap.size w w4) := Lib.hid (Keeps.below HK3.out hkk HK3.out.size (fun k h => by have h2 := HGE.out; omega))
  have HZ4 := Lib.hid (hkk.blk HZ3.out HNE.out.2.1)
  clear hkk hw4
  clear HR3 HK3 HZ3 HL3
  refine (rnum_q rb _ m cap xs p1 ys1 true w4 HR4.out).mono ?_
  rintro e w5 ⟨hk, v1, q1, y1_, ok1, rfl, hr, hs⟩
  have HK5 : Hid (Below w.heap.size w w5) := Lib.hid (Keeps.below HK4.out hk HK4.out.size (fun k h => by have h2 := HGE.out; omega))
  have HZ5 := Lib.hid (hk.blk HZ4.out HNE.out.1)
  have HL5 := Lib.hid (hk.blk HL4.out HNE.out.2.2)
  have HR5 := Lib.hid hr
  have HN1 := Lib.hid hs
  have HV1 := Lib.hid hs.bd
  clear hk hr hs
  clear HR4 HK4 HZ4 HL4
  have x1 : w5.cell? ⟨fb, 1, none⟩ = some (.int .u64 0) := HL5.out.cell 1
  have y1 : w5.frozen? ⟨fb, 1, none⟩ = false := HL5.out.free 1
  go_wp2_with fail
  clear x1 y1
  refine calls_named ?_
  intro w6 hw6
  have hkk : Keeps (fun k => k = fb) w5 w6 := by rw [← hw6]; exact ((Keeps.refl (fun k => k = fb) w5).put 1 (.int .u64 v1))
  have HL6 : Hid (Blk w6 fb #[.int .u64 8, .int .u64 v1, .int .u64 0, .bool false, .int .u64 0, .int .u64 0, .int .u64 0, .slice none 0 0, .slice none 0 0, .bool false, .bool false, .int .i64 0] 32) := Lib.hid (by rw [← hw6]; exact (HL5.out.set 1 (.int .u64 v1)).as rfl)
  have HR6 := Lib.hid (HR5.out.keep hkk (fun h => HNE.out.2.2 h.symm) (fun b hb h => by have h1 := HLT.out b hb; have h2 := HGE.out; omega))
  have HK6 : Hid (Below w.heap.size w w6) := Lib.hid (Keeps.below HK5.out hkk HK5.out.size (fun k h => by have h2 := HGE.out; omega))
  have HZ6 := Lib.hid (hkk.blk HZ5.out HNE.out.2.1)
  clear hkk hw6
  clear HR5 HK5 HZ5 HL5
  refine (rnum_q rb _ m cap xs q1 y1_ ok1 w6 HR6.out).mono ?_
  rintro e w7 ⟨hk, v2, q2, y2_, ok2, rfl, hr, hs⟩
  have HK7 : Hid (Below w.heap.size w w7) := Lib.hid (Keeps.below HK6.out hk HK6.out.size (fun k h => by have h2 := HGE.out; omega))
  have HZ7 := Lib.hid (hk.blk HZ6.out HNE.out.1)
  have HL7 := Lib.hid (hk.blk HL6.out HNE.out.2.2)
  have HR7 := Lib.hid hr
  have HN2 := Lib.hid hs
  have HV2 := Lib.hid hs.bd
  clear hk hr hs
  clear HR6 HK6 HZ6 HL6
  have x2 : w7.cell? ⟨fb, 2, none⟩ = some (.int .u64 0) := HL7.out.cell 2
  have x3 : w7.cell? ⟨fb, 3, none⟩ = some (.bool false) := HL7.out.cell 3
  have y2 : w7.frozen? ⟨fb, 2, none⟩ = false := HL7.out.free 2
  have y3 : w7.frozen? ⟨fb, 3, none⟩ = false := HL7.out.free 3
  go_upto_region 40 with fail
  clear x2 y2 x3 y3
  refine wp_named ?_
  intro w8 hw8
  have hkk : Keeps (fun k => k = fb) w7 w8 := by rw [← hw8]; exact (((Keeps.refl (fun k => k = fb) w7).put 2 (.int .u64 v2)).put 3 (.bool false))
  have HL8 : Hid (Blk w8 fb #[.int .u64 8, .int .u64 v1, .int .u64 v2, .bool false, .int .u64 0, .int .u64 0, .int .u64 0, .slice none 0 0, .slice none 0 0, .bool false, .bool false, .int .i64 0] 32) := Lib.hid (by rw [← hw8]; exact ((HL7.out.set 2 (.int .u64 v2)).set 3 (.bool false)).as rfl)
  have HR8 := Lib.hid (HR7.out.keep hkk (fun h => HNE.out.2.2 h.symm) (fun b hb h => by have h1 := HLT.out b hb; have h2 := HGE.out; omega))
  have HK8 : Hid (Below w.heap.size w w8) := Lib.hid (Keeps.below HK7.out hkk HK7.out.size (fun k h => by have h2 := HGE.out; omega))
  have HZ8 := Lib.hid (hkk.blk HZ7.out HNE.out.2.1)
  clear hkk hw8
  clear HR7 HK7 HZ7 HL7
  have c0 : w8.cell? ⟨rb, 0, none⟩ = some (.slice (some ⟨ba, off, none⟩) m cap) := HR8.out.k.cells.1.1
  have c1 : w8.cell? ⟨rb, 1, none⟩ = some (.int .i64 (q2 : Int)) := HR8.out.k.cells.1.2.1
  have c2 : w8.cell? ⟨rb, 2, none⟩ = some (.bool ok2) := HR8.out.k.cells.1.2.2
  obtain ⟨L, hL⟩ : ∃ L : Nat, (m : Int) - (q2 : Int) = (L : Int) := ⟨m - q2, by have := HR8.out.le; omega⟩
  have HLL : Hid (L = y2_.length) := Lib.hid (by have h1 := HR8.out.len; have h2 := HR8.out.le; omega)
  have HLM : Hid (L ≤ 1000000) := Lib.hid (by have := HM.out; omega)
  have hwi : IntKind.i64.wrap (L : Int) = (L : Int) := by have := HLM.out; rw [IntKind.wrap_i64]; omega
  have hwu : IntKind.u64.wrap (L : Int) = (L : Int) := by have := HLM.out; rw [IntKind.wrap_u64]; omega
  go_upto_region 41 with fail
  clear c0 c1 c2 hL hwi hwu
  go_wp2_with fail
  refine (rnum_q rb _ m cap xs q2 y2_ ok2 w8 HR8.out).mono ?_
  rintro e w9 ⟨hk, v3, q3, y3_, ok3, rfl, hr, hs⟩
  have HK9 : Hid (Below w.heap.size w w9) := Lib.hid (Keeps.below HK8.out hk HK8.out.size (fun k h => by have h2 := HGE.out; omega))
  have HZ9 := Lib.hid (hk.blk HZ8.out HNE.out.1)
  have HL9 := Lib.hid (hk.blk HL8.out HNE.out.2.2)
  have HR9 := Lib.hid hr
  have HN3 := Lib.hid hs
  have HV3 := Lib.hid hs.bd
  clear hk hr hs
  clear HR8 HK8 HZ8 HL8
  obtain ⟨K3, hK⟩ : ∃ K : Nat, v3 = (K : Int) := ⟨v3.toNat, by have := HV3.out; omega⟩
  have HKK3 := Lib.hid hK
  subst hK
  have hvo := HV2.out
  by_cases hg : (K3 : Int) ≤ 4611686018427387903 - v2
  rotate_left
  ·have x2 : w9.cell? ⟨fb, 2, none⟩ = some (.int .u64 v2) := HL9.out.cell 2
   have hgd : decide ((K3 : Int) ≤ 4611686018427387903 - v2) = false := decide_eq_false hg
   have HG : Hid (endB (v2) K3 = false) := Lib.hid (by rw [endG _ _ (by omega)]; exact hgd)
   go_wp2_with fail
   clear x2 hgd hg
   refine (rcut_q rb _ m cap xs q3 y3_ ok3 K3 w9 HR9.out (by have := HV3.out; omega)).mono ?_
   rintro e w10 ⟨hk, a8, n8, c8, bs, q4, y4_, ok4, rfl, ho, hr, hs⟩
   have HK10 : Hid (Below w.heap.size w w10) := Lib.hid (Keeps.below HK9.out hk HK9.out.size (fun k h => by have h2 := HGE.out; omega))
   have HZ10 := Lib.hid (hk.blk HZ9.out HNE.out.1)
   have HL10 := Lib.hid (hk.blk HL9.out HNE.out.2.2)
   have HR10 := Lib.hid hr
   have HO10 : Hid (Bo w9.heap.size w10 a8 n8 c8 bs) := Lib.hid ho
   have HOB : Hid (fb < w9.heap.size ∧ rs < w9.heap.size) := Lib.hid ⟨HL9.out.lt, HZ9.out.lt⟩
   have HOW : Hid (w.heap.size ≤ w9.heap.size) := Lib.hid HK9.out.size
   have HC4 := Lib.hid hs
   clear hk hr hs ho
   clear HR9 HK9 HZ9 HL9
   have x8 : w10.cell? ⟨fb, 8, none⟩ = some (.slice none 0 0) := HL10.out.cell 8
   have y8 : w10.frozen? ⟨fb, 8, none⟩ = false := HL10.out.free 8
   go_wp2_with fail
   clear x8 y8
   have hkk : Keeps (fun k => k = fb) w10 (w10.setCell ⟨fb, 8, none⟩ (.slice a8 n8 c8)) := ((Keeps.refl (fun k => k = fb) w10).put 8 (.slice a8 n8 c8))
   have HL11 : Hid (Blk (w10.setCell ⟨fb, 8, none⟩ (.slice a8 n8 c8)) fb #[.int .u64 8, .int .u64 v1, .int .u64 v2, .bool false, .int .u64 0, .int .u64 0, .int .u64 0, .slice none 0 0, .slice a8 n8 c8, .bool false, .bool false, .int .i64 0] 32) := Lib.hid ((HL10.out.set 8 (.slice a8 n8 c8)).as rfl)
   have HR11 := Lib.hid (HR10.out.keep hkk (fun h => HNE.out.2.2 h.symm) (fun b hb h => by have h1 := HLT.out b hb; have h2 := HGE.out; omega))
   have HK11 := Lib.hid (Keeps.below HK10.out hkk HK10.out.size (fun k h => by have h2 := HGE.out; omega))
   have HZ11 := Lib.hid (hkk.blk HZ10.out HNE.out.2.1)
   have HOF := (HO10.out.keep hkk (fun b hb h => by have h1 := (HO10.out.ge b hb).1; have h2 := HOB.out; omega)).mono HOB.out.1
   go_meet
   exact ⟨HZ11.out, HK11.out, .inl ⟨rfl, by rw [← HDD.out]; exact (show OptS true (decT _ ys1) (⟨8, v1, v2, false, 0, 0, 0, [], bs, false, false, 0⟩) ys1 false from (by show OptS true (strD false true true ys1) _ _ _; unfold strD; exact OptS.bind HN1.out.opt (OptS.bind HN2.out.opt (OptS.noB _ _ (OptS.ptx HN3.out HC4.out rfl) (fun h => if_neg (by rw [HC4.out.len h, HG.out]; decide)))))).no⟩⟩
  have x2 : w9.cell? ⟨fb, 2, none⟩ = some (.int .u64 v2) := HL9.out.cell 2
  have hgd : decide ((K3 : Int) ≤ 4611686018427387903 - v2) = true := decide_eq_true hg
  have HG : Hid (endB (v2) K3 = true) := Lib.hid (by rw [endG _ _ (by omega)]; exact hgd)
  go_wp2_with fail
  clear x2 hgd hg
  refine (rcut_q rb _ m cap xs q3 y3_ ok3 K3 w9 HR9.out (by have := HV3.out; omega)).mono ?_
  rintro e w10 ⟨hk, a8, n8, c8, bs, q4, y4_, ok4, rfl, ho, hr, hs⟩
  have HK10 : Hid (Below w.heap.size w w10) := Lib.hid (Keeps.below HK9.out hk HK9.out.size (fun k h => by have h2 := HGE.out; omega))
  have HZ10 := Lib.hid (hk.blk HZ9.out HNE.out.1)
  have HL10 := Lib.hid (hk.blk HL9.out HNE.out.2.2)
  have HR10 := Lib.hid hr
  have HO10 : Hid (Bo w9.heap.size w10 a8 n8 c8 bs) := Lib.hid ho
  have HOB : Hid (fb < w9.heap.size ∧ rs < w9.heap.size) := Lib.hid ⟨HL9.out.lt, HZ9.out.lt⟩
  have HOW : Hid (w.heap.size ≤ w9.heap.size) := Lib.hid HK9.out.size
  have HC4 := Lib.hid hs
  clear hk hr hs ho
  clear HR9 HK9 HZ9 HL9
  have x8 : w10.cell? ⟨fb, 8, none⟩ = some (.slice none 0 0) := HL10.out.cell 8
  have y8 : w10.frozen? ⟨fb, 8, none⟩ = false := HL10.out.free 8
  go_wp2_with fail
  clear x8 y8
  have hkk : Keeps (fun k => k = fb) w10 (w10.setCell ⟨fb, 8, none⟩ (.slice a8 n8 c8)) := ((Keeps.refl (fun k => k = fb) w10).put 8 (.slice a8 n8 c8))
  have HL11 : Hid (Blk (w10.setCell ⟨fb, 8, none⟩ (.slice a8 n8 c8)) fb #[.int .u64 8, .int .u64 v1, .int .u64 v2, .bool false, .int .u64 0, .int .u64 0, .int .u64 0, .slice none 0 0, .slice a8 n8 c8, .bool false, .bool false, .int .i64 0] 32) := Lib.hid ((HL10.out.set 8 (.slice a8 n8 c8)).as rfl)
  have HR11 := Lib.hid (HR10.out.keep hkk (fun h => HNE.out.2.2 h.symm) (fun b hb h => by have h1 := HLT.out b hb; have h2 := HGE.out; omega))
  have HK11 := Lib.hid (Keeps.below HK10.out hkk HK10.out.size (fun k h => by have h2 := HGE.out; omega))
  have HZ11 := Lib.hid (hkk.blk HZ10.out HNE.out.2.1)
  have HOF := (HO10.out.keep hkk (fun b hb h => by have h1 := (HO10.out.ge b hb).1; have h2 := HOB.out; omega)).mono HOB.out.1
  go_meet
  cases ok4 with
  | false => exact ⟨HZ11.out, HK11.out, .inr ⟨rfl, false, (⟨⟨8, v1, v2, false, 0, 0, 0, [], bs, false, false, 0⟩, none, 0, 0, a8, n8, c8⟩ : Qf), q4, y4_, HL11.out, HR11.out, fun h => (by cases h), fun _ => by rw [← HDD.out]; exact (show OptS true (decT _ ys1) (⟨8, v1, v2, false, 0, 0, 0, [], bs, false, false, 0⟩) _ _ from (by show OptS true (strD false true true ys1) _ _ _; unfold strD; exact OptS.bind HN1.out.opt (OptS.bind HN2.out.opt (OptS.bind (OptS.ptx HN3.out HC4.out rfl) (OptS.ite _ _ (fun h => by rw [HC4.out.len h]; exact HG.out)))))).no⟩⟩
  | true => exact ⟨HZ11.out, HK11.out, .inr ⟨rfl, true, (⟨⟨8, v1, v2, false, 0, 0, 0, [], bs, false, false, 0⟩, none, 0, 0, a8, n8, c8⟩ : Qf), q4, y4_, HL11.out, HR11.out, fun _ => ⟨by rw [← HDD.out]; exact (show OptS true (decT _ ys1) (⟨8, v1, v2, false, 0, 0, 0, [], bs, false, false, 0⟩) _ _ from (by show OptS true (strD false true true ys1) _ _ _; unfold strD; exact OptS.bind HN1.out.opt (OptS.bind HN2.out.opt (OptS.bind (OptS.ptx HN3.out HC4.out rfl) (OptS.ite _ _ (fun h => by rw [HC4.out.len h]; exact HG.out)))))).yes.2, Qn.bytes _ _ _ _ _ _ _ _ _ _ ⟨by omega, by omega⟩ ⟨HV1.out.1, by have := HV1.out; omega⟩ ⟨HV2.out.1, by have := HV2.out; omega⟩ inU_0 inU_0 _ _ _ _ HOF⟩, fun h => (by cases h)⟩⟩
 by_cases h15 : t = 15
 ·subst h15
  have b1 : bits .and .u64 15 1 = 1 := by decide +kernel
  have b4 : bits .and .u64 15 4 = 4 := by decide +kernel
  have b2 : bits .and .u64 15 2 = 2 := by decide +kernel
  have x0 : w3.cell? ⟨fb, 0, none⟩ = some (.int .u64 15) := HL3.out.cell 0
  have y0 : w3.frozen? ⟨fb, 0, none⟩ = false := HL3.out.free 0
  go_wp2_with fail
  clear x0 y0
  refine calls_named ?_
  intro w4 hw4
  have hkk : Keeps (fun k => k = fb) w3 w4 := by rw [← hw4]; exact ((Keeps.refl (fun k => k = fb) w3).put 0 (.int .u64 8))
  have HL4 : Hid (Blk w4 fb #[.int .u64 8, .int .u64 0, .int .u64 0, .bool false, .int .u64 0, .int .u64 0, .int .u64 0, .slice none 0 0, .slice none 0 0, .bool false, .bool false, .int .i64 0] 32) := Lib.hid (by rw [← hw4]; exact (HL3.out.set 0 (.int .u64 8)).as rfl)
  have HR4 := Lib.hid (HR3.out.keep hkk (fun h => HNE.out.2.2 h.symm) (fun b hb h => by have h1 := HLT.out b hb; have h2 := HGE.out; omega))
  have HK4 : Hid (Below w.heap.size w w4) := Lib.hid (Keeps.below HK3.out hkk HK3.out.size (fun k h => by have h2 := HGE.out; omega))
  have HZ4 := Lib.hid (hkk.blk HZ3.out HNE.out.2.1)
  clear hkk hw4
  clear HR3 HK3 HZ3 HL3
  refine (rnum_q rb _ m cap xs p1 ys1 true w4 HR4.out).mono ?_
  rintro e w5 ⟨hk, v1, q1, y1_, ok1, rfl, hr, hs⟩
  have HK5 : Hid (Below w.heap.size w w5) := Lib.hid (Keeps.below HK4.out hk HK4.out.size (fun k h => by have h2 := HGE.out; omega))
  have HZ5 := Lib.hid (hk.blk HZ4.out HNE.out.1)
  have HL5 := Lib.hid (hk.blk HL4.out HNE.out.2.2)
  have HR5 := Lib.hid hr
  have HN1 := Lib.hid hs
  have HV1 := Lib.hid hs.bd
  clear hk hr hs
  clear HR4 HK4 HZ4 HL4
  have x1 : w5.cell? ⟨fb, 1, none⟩ = some (.int .u64 0) := HL5.out.cell 1
  have y1 : w5.frozen? ⟨fb, 1, none⟩ = false := HL5.out.free 1
  go_wp2_with fail
  clear x1 y1
  refine calls_named ?_
  intro w6 hw6
  have hkk : Keeps (fun k => k = fb) w5 w6 := by rw [← hw6]; exact ((Keeps.refl (fun k => k = fb) w5).put 1 (.int .u64 v1))
  have HL6 : Hid (Blk w6 fb #[.int .u64 8, .int .u64 v1, .int .u64 0, .bool false, .int .u64 0, .int .u64 0, .int .u64 0, .slice none 0 0, .slice none 0 0, .bool false, .bool false, .int .i64 0] 32) := Lib.hid (by rw [← hw6]; exact (HL5.out.set 1 (.int .u64 v1)).as rfl)
  have HR6 := Lib.hid (HR5.out.keep hkk (fun h => HNE.out.2.2 h.symm) (fun b hb h => by have h1 := HLT.out b hb; have h2 := HGE.out; omega))
  have HK6 : Hid (Below w.heap.size w w6) := Lib.hid (Keeps.below HK5.out hkk HK5.out.size (fun k h => by have h2 := HGE.out; omega))
  have HZ6 := Lib.hid (hkk.blk HZ5.out HNE.out.2.1)
  clear hkk hw6
  clear HR5 HK5 HZ5 HL5
  refine (rnum_q rb _ m cap xs q1 y1_ ok1 w6 HR6.out).mono ?_
  rintro e w7 ⟨hk, v2, q2, y2_, ok2, rfl, hr, hs⟩
  have HK7 : Hid (Below w.heap.size w w7) := Lib.hid (Keeps.below HK6.out hk HK6.out.size (fun k h => by have h2 := HGE.out; omega))
  have HZ7 := Lib.hid (hk.blk HZ6.out HNE.out.1)
  have HL7 := Lib.hid (hk.blk HL6.out HNE.out.2.2)
  have HR7 := Lib.hid hr
  have HN2 := Lib.hid hs
  have HV2 := Lib.hid hs.bd
  clear hk hr hs
  clear HR6 HK6 HZ6 HL6
  have x2 : w7.cell? ⟨fb, 2, none⟩ = some (.int .u64 0) := HL7.out.cell 2
  have x3 : w7.cell? ⟨fb, 3, none⟩ = some (.bool false) := HL7.out.cell 3
  have y2 : w7.frozen? ⟨fb, 2, none⟩ = false := HL7.out.free 2
  have y3 : w7.frozen? ⟨fb, 3, none⟩ = false := HL7.out.free 3
  go_upto_region 40 with fail
  clear x2 y2 x3 y3
  refine wp_named ?_
  intro w8 hw8
  have hkk : Keeps (fun k => k = fb) w7 w8 := by rw [← hw8]; exact (((Keeps.refl (fun k => k = fb) w7).put 2 (.int .u64 v2)).put 3 (.bool true))
  have HL8 : Hid (Blk w8 fb #[.int .u64 8, .int .u64 v1, .int .u64 v2, .bool true, .int .u64 0, .int .u64 0, .int .u64 0, .slice none 0 0, .slice none 0 0, .bool false, .bool false, .int .i64 0] 32) := Lib.hid (by rw [← hw8]; exact ((HL7.out.set 2 (.int .u64 v2)).set 3 (.bool true)).as rfl)
  have HR8 := Lib.hid (HR7.out.keep hkk (fun h => HNE.out.2.2 h.symm) (fun b hb h => by have h1 := HLT.out b hb; have h2 := HGE.out; omega))
  have HK8 : Hid (Below w.heap.size w w8) := Lib.hid (Keeps.below HK7.out hkk HK7.out.size (fun k h => by have h2 := HGE.out; omega))
  have HZ8 := Lib.hid (hkk.blk HZ7.out HNE.out.2.1)
  clear hkk hw8
  clear HR7 HK7 HZ7 HL7
  have c0 : w8.cell? ⟨rb, 0, none⟩ = some (.slice (some ⟨ba, off, none⟩) m cap) := HR8.out.k.cells.1.1
  have c1 : w8.cell? ⟨rb, 1, none⟩ = some (.int .i64 (q2 : Int)) := HR8.out.k.cells.1.2.1
  have c2 : w8.cell? ⟨rb, 2, none⟩ = some (.bool ok2) := HR8.out.k.cells.1.2.2
  obtain ⟨L, hL⟩ : ∃ L : Nat, (m : Int) - (q2 : Int) = (L : Int) := ⟨m - q2, by have := HR8.out.le; omega⟩
  have HLL : Hid (L = y2_.length) := Lib.hid (by have h1 := HR8.out.len; have h2 := HR8.out.le; omega)
  have HLM : Hid (L ≤ 1000000) := Lib.hid (by have := HM.out; omega)
  have hwi : IntKind.i64.wrap (L : Int) = (L : Int) := by have := HLM.out; rw [IntKind.wrap_i64]; omega
  have hwu : IntKind.u64.wrap (L : Int) = (L : Int) := by have := HLM.out; rw [IntKind.wrap_u64]; omega
  go_upto_region 41 with fail
  clear c0 c1 c2 hL hwi hwu
  go_wp2_with fail
  refine (rnum_q rb _ m cap xs q2 y2_ ok2 w8 HR8.out).mono ?_
  rintro e w9 ⟨hk, v3, q3, y3_, ok3, rfl, hr, hs⟩
  have HK9 : Hid (Below w.heap.size w w9) := Lib.hid (Keeps.below HK8.out hk HK8.out.size (fun k h => by have h2 := HGE.out; omega))
  have HZ9 := Lib.hid (hk.blk HZ8.out HNE.out.1)
  have HL9 := Lib.hid (hk.blk HL8.out HNE.out.2.2)
  have HR9 := Lib.hid hr
  have HN3 := Lib.hid hs
  have HV3 := Lib.hid hs.bd
  clear hk hr hs
  clear HR8 HK8 HZ8 HL8
  obtain ⟨K3, hK⟩ : ∃ K : Nat, v3 = (K : Int) := ⟨v3.toNat, by have := HV3.out; omega⟩
  have HKK3 := Lib.hid hK
  subst hK
  have hvo := HV2.out
  by_cases hg : (K3 : Int) ≤ 4611686018427387903 - v2
  rotate_left
  ·have x2 : w9.cell? ⟨fb, 2, none⟩ = some (.int .u64 v2) := HL9.out.cell 2
   have hgd : decide ((K3 : Int) ≤ 4611686018427387903 - v2) = false := decide_eq_false hg
   have HG : Hid (endB (v2) K3 = false) := Lib.hid (by rw [endG _ _ (by omega)]; exact hgd)
   go_wp2_with fail
   clear x2 hgd hg
   refine (rcut_q rb _ m cap xs q3 y3_ ok3 K3 w9 HR9.out (by have := HV3.out; omega)).mono ?_
   rintro e w10 ⟨hk, a8, n8, c8, bs, q4, y4_, ok4, rfl, ho, hr, hs⟩
   have HK10 : Hid (Below w.heap.size w w10) := Lib.hid (Keeps.below HK9.out hk HK9.out.size (fun k h => by have h2 := HGE.out; omega))
   have HZ10 := Lib.hid (hk.blk HZ9.out HNE.out.1)
   have HL10 := Lib.hid (hk.blk HL9.out HNE.out.2.2)
   have HR10 := Lib.hid hr
   have HO10 : Hid (Bo w9.heap.size w10 a8 n8 c8 bs) := Lib.hid ho
   have HOB : Hid (fb < w9.heap.size ∧ rs < w9.heap.size) := Lib.hid ⟨HL9.out.lt, HZ9.out.lt⟩
   have HOW : Hid (w.heap.size ≤ w9.heap.size) := Lib.hid HK9.out.size
   have HC4 := Lib.hid hs
   clear hk hr hs ho
   clear HR9 HK9 HZ9 HL9
   have x8 : w10.cell? ⟨fb, 8, none⟩ = some (.slice none 0 0) := HL10.out.cell 8
   have y8 : w10.frozen? ⟨fb, 8, none⟩ = false := HL10.out.free 8
   go_wp2_with fail
   clear x8 y8
   have hkk : Keeps (fun k => k = fb) w10 (w10.setCell ⟨fb, 8, none⟩ (.slice a8 n8 c8)) := ((Keeps.refl (fun k => k = fb) w10).put 8 (.slice a8 n8 c8))
   have HL11 : Hid (Blk (w10.setCell ⟨fb, 8, none⟩ (.slice a8 n8 c8)) fb #[.int .u64 8, .int .u64 v1, .int .u64 v2, .bool true, .int .u64 0, .int .u64 0, .int .u64 0, .slice none 0 0, .slice a8 n8 c8, .bool false, .bool false, .int .i64 0] 32) := Lib.hid ((HL10.out.set 8 (.slice a8 n8 c8)).as rfl)
   have HR11 := Lib.hid (HR10.out.keep hkk (fun h => HNE.out.2.2 h.symm) (fun b hb h => by have h1 := HLT.out b hb; have h2 := HGE.out; omega))
   have HK11 := Lib.hid (Keeps.below HK10.out hkk HK10.out.size (fun k h => by have h2 := HGE.out; omega))
   have HZ11 := Lib.hid (hkk.blk HZ10.out HNE.out.2.1)
   have HOF := (HO10.out.keep hkk (fun b hb h => by have h1 := (HO10.out.ge b hb).1; have h2 := HOB.out; omega)).mono HOB.out.1
   go_meet
   exact ⟨HZ11.out, HK11.out, .inl ⟨rfl, by rw [← HDD.out]; exact (show OptS true (decT _ ys1) (⟨8, v1, v2, true, 0, 0, 0, [], bs, false, false, 0⟩) ys1 false from (by show OptS true (strD true true true ys1) _ _ _; unfold strD; exact OptS.bind HN1.out.opt (OptS.bind HN2.out.opt (OptS.noB _ _ (OptS.ptx HN3.out HC4.out rfl) (fun h => if_neg (by rw [HC4.out.len h, HG.out]; decide)))))).no⟩⟩
  have x2 : w9.cell? ⟨fb, 2, none⟩ = some (.int .u64 v2) := HL9.out.cell 2
  have hgd : decide ((K3 : Int) ≤ 4611686018427387903 - v2) = true := decide_eq_true hg
  have HG : Hid (endB (v2) K3 = true) := Lib.hid (by rw [endG _ _ (by omega)]; exact hgd)
  go_wp2_with fail
  clear x2 hgd hg
  refine (rcut_q rb _ m cap xs q3 y3_ ok3 K3 w9 HR9.out (by have := HV3.out; omega)).mono ?_
  rintro e w10 ⟨hk, a8, n8, c8, bs, q4, y4_, ok4, rfl, ho, hr, hs⟩
  have HK10 : Hid (Below w.heap.size w w10) := Lib.hid (Keeps.below HK9.out hk HK9.out.size (fun k h => by have h2 := HGE.out; omega))
  have HZ10 := Lib.hid (hk.blk HZ9.out HNE.out.1)
  have HL10 := Lib.hid (hk.blk HL9.out HNE.out.2.2)
  have HR10 := Lib.hid hr
  have HO10 : Hid (Bo w9.heap.size w10 a8 n8 c8 bs) := Lib.hid ho
  have HOB : Hid (fb < w9.heap.size ∧ rs < w9.heap.size) := Lib.hid ⟨HL9.out.lt, HZ9.out.lt⟩
  have HOW : Hid (w.heap.size ≤ w9.heap.size) := Lib.hid HK9.out.size
  have HC4 := Lib.hid hs
  clear hk hr hs ho
  clear HR9 HK9 HZ9 HL9
  have x8 : w10.cell? ⟨fb, 8, none⟩ = some (.slice none 0 0) := HL10.out.cell 8
  have y8 : w10.frozen? ⟨fb, 8, none⟩ = false := HL10.out.free 8
  go_wp2_with fail
  clear x8 y8
  have hkk : Keeps (fun k => k = fb) w10 (w10.setCell ⟨fb, 8, none⟩ (.slice a8 n8 c8)) := ((Keeps.refl (fun k => k = fb) w10).put 8 (.slice a8 n8 c8))
  have HL11 : Hid (Blk (w10.setCell ⟨fb, 8, none⟩ (.slice a8 n8 c8)) fb #[.int .u64 8, .int .u64 v1, .int .u64 v2, .bool true, .int .u64 0, .int .u64 0, .int .u64 0, .slice none 0 0, .slice a8 n8 c8, .bool false, .bool false, .int .i64 0] 32) := Lib.hid ((HL10.out.set 8 (.slice a8 n8 c8)).as rfl)
  have HR11 := Lib.hid (HR10.out.keep hkk (fun h => HNE.out.2.2 h.symm) (fun b hb h => by have h1 := HLT.out b hb; have h2 := HGE.out; omega))
  have HK11 := Lib.hid (Keeps.below HK10.out hkk HK10.out.size (fun k h => by have h2 := HGE.out; omega))
  have HZ11 := Lib.hid (hkk.blk HZ10.out HNE.out.2.1)
  have HOF := (HO10.out.keep hkk (fun b hb h => by have h1 := (HO10.out.ge b hb).1; have h2 := HOB.out; omega)).mono HOB.out.1
  go_meet
  cases ok4 with
  | false => exact ⟨HZ11.out, HK11.out, .inr ⟨rfl, false, (⟨⟨8, v1, v2, true, 0, 0, 0, [], bs, false, false, 0⟩, none, 0, 0, a8, n8, c8⟩ : Qf), q4, y4_, HL11.out, HR11.out, fun h => (by cases h), fun _ => by rw [← HDD.out]; exact (show OptS true (decT _ ys1) (⟨8, v1, v2, true, 0, 0, 0, [], bs, false, false, 0⟩) _ _ from (by show OptS true (strD true true true ys1) _ _ _; unfold strD; exact OptS.bind HN1.out.opt (OptS.bind HN2.out.opt (OptS.bind (OptS.ptx HN3.out HC4.out rfl) (OptS.ite _ _ (fun h => by rw [HC4.out.len h]; exact HG.out)))))).no⟩⟩
  | true => exact ⟨HZ11.out, HK11.out, .inr ⟨rfl, true, (⟨⟨8, v1, v2, true, 0, 0, 0, [], bs, false, false, 0⟩, none, 0, 0, a8, n8, c8⟩ : Qf), q4, y4_, HL11.out, HR11.out, fun _ => ⟨by rw [← HDD.out]; exact (show OptS true (decT _ ys1) (⟨8, v1, v2, true, 0, 0, 0, [], bs, false, false, 0⟩) _ _ from (by show OptS true (strD true true true ys1) _ _ _; unfold strD; exact OptS.bind HN1.out.opt (OptS.bind HN2.out.opt (OptS.bind (OptS.ptx HN3.out HC4.out rfl) (OptS.ite _ _ (fun h => by rw [HC4.out.len h]; exact HG.out)))))).yes.2, Qn.bytes _ _ _ _ _ _ _ _ _ _ ⟨by omega, by omega⟩ ⟨HV1.out.1, by have := HV1.out; omega⟩ ⟨HV2.out.1, by have := HV2.out; omega⟩ inU_0 inU_0 _ _ _ _ HOF⟩, fun h => (by cases h)⟩⟩
 omega

end Go.Proofs.Ytgfkgmmigbpciaa
