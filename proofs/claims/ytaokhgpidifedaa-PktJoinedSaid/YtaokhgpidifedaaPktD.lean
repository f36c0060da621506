/- packet of the package qpkt, where the packet is short; where it is none. -/
import Derived.Test.YtaokhgpidifedaaPktC
namespace Go.Proofs.Ytaokhgpidifedaa
open Go.RowKit Go.Deep

theorem pktS_drops (dx : List UInt8) (N : Int) (P : Nat) (ys : List UInt8) (hd : dx.length = 8) :
    ((pktS dx N P ys).drop 0).take 1 = [byt (64 + P - 1)] ∧ ((pktS dx N P ys).drop 1).take 8 = dx ∧ ((pktS dx N P ys).drop 9).take P = bigD N P ∧ ((pktS dx N P ys).drop (9 + P)).take ys.length = ys ∧ (pktS dx N P ys).length = 9 + P + ys.length := by
  have hb := bigD_length N P
  have e9 : (pktS dx N P ys).drop 9 = bigD N P ++ ys := by unfold pktS; rw [List.drop_succ_cons, List.drop_left' hd]
  refine ⟨by simp [pktS], by unfold pktS; rw [List.drop_succ_cons, List.drop_zero, List.take_left' hd], by rw [e9, List.take_left' hb], ?_, ?_⟩
  · rw [← List.drop_drop, e9, List.drop_left' hb, List.take_length]
  · simp [pktS, hb, hd]; omega

set_option maxRecDepth 100000 in
set_option maxHeartbeats 3200000 in
theorem packet_short (rb : Nat) (a : Option Addr) (m cap : Nat) (dx : List UInt8) (N : Int) (P : Nat) (ys : List UInt8) (w : World)
    (hb : By w a m cap (pktS dx N P ys)) (hr : Pr w rb a m cap 0) (hl : m ≤ 1000000000) (ha : ∀ b, a.map (·.block) = some b → b < w.heap.size) (hne : ∀ b, a.map (·.block) = some b → b ≠ rb)
    (hd : dx.length = 8) (p0 : 1 ≤ P) (p1 : P ≤ 4) (n0 : 0 ≤ N) (n1 : N < 2 ^ (8 * P)) :
    Calls Try.prog 13 #[.pointer (some ⟨rb, 0, none⟩)] w fun e w' => ∃ a1 c1 a3 c3, e = .returned (.tuple #[.agg #[.bool false, .int .i64 0, .int .u32 0, .slice a1 8 c1, .slice none 0 0, .int .u64 N, .int .i64 P], .slice a3 ys.length c3]) ∧
      Bo w.heap.size w' a1 8 c1 dx ∧ Bo w.heap.size w' a3 ys.length c3 ys ∧ Pr w' rb a m cap m ∧ Keeps (fun k => k = rb) w w' := by
  obtain ⟨F, hF, f0, f1, f2, f3, f4, f5⟩ := first_short P p0 p1
  have hrb := hr.lt
  have HF := Lib.hid hF
  have HF2 := Lib.hid f2
  have HF3 := Lib.hid f3
  have HF4 := Lib.hid f4
  have HF5 := Lib.hid f5
  have HNE := Lib.hid hne
  have HA := Lib.hid ha
  have HST := Lib.hid (St.mk hb hr (Keeps.refl (fun k => k = rb) w))
  have HN : Hid (numF 0 (bigD N P) = N) := Lib.hid (numF_of N P (by omega) n0 n1)
  obtain ⟨d0, d1, d8, d9, hlen⟩ := pktS_drops dx N P ys hd
  obtain ⟨xs, hxs⟩ : ∃ xs, pktS dx N P ys = xs := ⟨_, rfl⟩
  rw [hxs] at HST d0 d1 d8 d9 hlen
  have hm : m = xs.length := HST.out.by_.1
  obtain ⟨yn, hyn⟩ : ∃ yn, ys.length = yn := ⟨_, rfl⟩
  rw [hyn] at d9 hlen ⊢
  have hm1 : 9 + P + yn = m := by omega
  have D0 := Lib.hid d0
  have D1 := Lib.hid d1
  have D8 := Lib.hid d8
  have D9 := Lib.hid d9
  have HYN := Lib.hid hyn
  have HM1 := Lib.hid hm1
  have hm2 : 9 + P + yn ≤ m := by omega
  clear hF f2 f3 f4 f5 hne ha hb hr hxs hm d0 d1 d8 d9 hlen hyn hd hm1
  go_enter Try.func13, Try.ntmps13
  go_wp2_with fail
  have HS1 := Lib.hid (HST.out.alloc (.cells #[.bool false, .int .i64 0, .int .u32 0, .slice none 0 0, .slice none 0 0, .int .u64 0, .int .i64 0] 29 (0, 0)))
  refine (take_any rb a m cap xs 0 1 _ HS1.out.by_ HS1.out.pr (by omega) hl HNE.out).mono ?_
  rintro e w1 ⟨a1, c1, rfl, ho1, hr1, hk1⟩
  rw [D0.out] at ho1
  obtain ⟨g, rfl, hg0, hg1, hcell, hfree⟩ := ho1.row (by omega)
  have e0 : w1.cell? ⟨g, 0, none⟩ = some (.int .u8 F) := by rw [hcell 0 (by simp), ← HF.out]; rfl
  have HS2 := Lib.hid (HS1.out.next HNE.out hr1 hk1)
  have HZ2 := Lib.hid (hk1.blk (Blk.new w #[.bool false, .int .i64 0, .int .u32 0, .slice none 0 0, .slice none 0 0, .int .u64 0, .int .i64 0] 29) (by show ¬ w.heap.size = rb; omega))
  have hs1 : w.heap.size + 1 ≤ w1.heap.size := by have := hk1.size; simp at this; exact this
  have f2 := HF2.out
  clear ho1 hr1 hk1 hcell hfree hg0
  go_wp2_with fail
  refine (must_ok w1).mono ?_
  rintro e w2 ⟨rfl, rfl⟩
  clear e0 f2
  have f3 := HF3.out
  have f4 := HF4.out
  have f5 := HF5.out
  go_wp2_with fail
  refine (must_ok _).mono ?_
  rintro e w3 ⟨rfl, hw3⟩
  have HS3 : Hid (St w rb a m cap xs w3 1) := Lib.hid (hw3 ▸ HS2.out.alloc (.cells #[.bool false, .int .i64 0, .int .u32 0, .slice none 0 0, .slice none 0 0, .int .u64 0, .int .i64 P] 29 (0, 0)))
  have HZ3 : Hid (Blk w3 w.heap.size #[.bool false, .int .i64 0, .int .u32 0, .slice none 0 0, .slice none 0 0, .int .u64 0, .int .i64 0] 29) := Lib.hid (hw3 ▸ HZ2.out.alloc _)
  have HH3 : Hid (Blk w3 w1.heap.size #[.bool false, .int .i64 0, .int .u32 0, .slice none 0 0, .slice none 0 0, .int .u64 0, .int .i64 P] 29) := Lib.hid (hw3 ▸ Blk.new w1 #[.bool false, .int .i64 0, .int .u32 0, .slice none 0 0, .slice none 0 0, .int .u64 0, .int .i64 P] 29)
  clear hw3 f3 f4 f5 hg1
  generalize w1.heap.size = hb at *
  have hbz : w.heap.size ≤ hb := by omega
  go_wp2_with fail
  refine (take_any rb a m cap xs 1 8 _ HS3.out.by_ HS3.out.pr (by omega) hl HNE.out).mono ?_
  rintro e w4 ⟨a5, c5, rfl, ho4, hr4, hk4⟩
  rw [D1.out] at ho4
  have hbl : hb < w3.heap.size := HH3.out.lt
  have hrl : rb < w3.heap.size := by omega
  have HS4 := Lib.hid (HS3.out.next HNE.out hr4 hk4)
  have HZ4 := Lib.hid (hk4.blk HZ3.out (by show ¬ w.heap.size = rb; omega))
  have HH4 := Lib.hid (hk4.blk HH3.out (by show ¬ hb = rb; omega))
  generalize w3.heap.size = B5 at *
  have HO4 := Lib.hid ho4
  clear ho4 hr4 hk4
  have y3 : w4.frozen? ⟨hb, 3, none⟩ = false := HH4.out.free 3
  have q3 : w4.cell? ⟨hb, 3, none⟩ = some (.slice none 0 0) := HH4.out.cell 3
  have c6' : w4.cell? ⟨hb, 6, none⟩ = some (.int .i64 P) := HH4.out.cell 6
  go_wp2_with fail
  have HS5 := Lib.hid (HS4.out.set (o := 3) hbz hrb HA.out (.slice a5 8 c5))
  have HZ5 := Lib.hid (HZ4.out.set_ne (a := ⟨hb, 3, none⟩) (by show w.heap.size ≠ hb; omega) (.slice a5 8 c5))
  have HH5 : Hid (Blk (w4.setCell ⟨hb, 3, none⟩ (.slice a5 8 c5)) hb #[.bool false, .int .i64 0, .int .u32 0, .slice a5 8 c5, .slice none 0 0, .int .u64 0, .int .i64 P] 29) := Lib.hid (HH4.out.set 3 (.slice a5 8 c5))
  have HO5 := Lib.hid (HO4.out.put (o := 3) hbl (.slice a5 8 c5))
  clear y3 q3 c6'
  refine (rbig_any rb a m cap xs 9 P _ HS5.out.by_ HS5.out.pr (by omega) hl HNE.out (by omega)).mono ?_
  rintro e w6 ⟨rfl, hr6, hk6⟩
  rw [D8.out, HN.out]
  have HS6 := Lib.hid (HS5.out.next HNE.out hr6 hk6)
  have HZ6 := Lib.hid (hk6.blk HZ5.out (by show ¬ w.heap.size = rb; omega))
  have HH6 := Lib.hid (hk6.blk HH5.out (by show ¬ hb = rb; omega))
  have HO6 := Lib.hid (HO5.out.next hk6 hrl)
  clear hr6 hk6
  have y5 : w6.frozen? ⟨hb, 5, none⟩ = false := HH6.out.free 5
  have q5 : w6.cell? ⟨hb, 5, none⟩ = some (.int .u64 0) := HH6.out.cell 5
  go_upto_region 8 with fail
  obtain ⟨A, hA⟩ : ∃ A, 9 + P = A := ⟨_, rfl⟩
  have HAE := Lib.hid hA
  have HSF := Lib.hid (HS6.out.set (o := 5) hbz hrb HA.out (.int .u64 N))
  have HZF := Lib.hid (HZ6.out.set_ne (a := ⟨hb, 5, none⟩) (by show w.heap.size ≠ hb; omega) (.int .u64 N))
  have HHF : Hid (Blk (w6.setCell ⟨hb, 5, none⟩ (.int .u64 N)) hb #[.bool false, .int .i64 0, .int .u32 0, .slice a5 8 c5, .slice none 0 0, .int .u64 N, .int .i64 P] 29) := Lib.hid (HH6.out.set 5 (.int .u64 N))
  have HOF := Lib.hid (HO6.out.put (o := 5) hbl (.int .u64 N))
  rw [hA] at HSF D9 HM1 hm2
  clear y5 q5 hA
  generalize w6.setCell ⟨hb, 5, none⟩ (.int .u64 N) = w12 at *
  obtain ⟨⟨g0, g1, g2, g3, g4, g5, g6⟩, _⟩ := hd_cells HHF.out
  obtain ⟨⟨c0, c1'⟩, _⟩ := HSF.out.pr.cells
  have u3 : IntKind.i64.wrap ((m : Int) - (A : Int)) = (yn : Int) := by rw [IntKind.wrap_i64]; have := HM1.out; omega
  refine y_begin (fun w' => w'.cell? ⟨hb, 0, none⟩ = some (.bool false) ∧ w'.cell? ⟨hb, 1, none⟩ = some (.int .i64 0) ∧ w'.cell? ⟨hb, 2, none⟩ = some (.int .u32 0) ∧ w'.cell? ⟨hb, 3, none⟩ = some (.slice a5 8 c5) ∧ w'.cell? ⟨hb, 4, none⟩ = some (.slice none 0 0) ∧ w'.cell? ⟨hb, 5, none⟩ = some (.int .u64 N) ∧ w'.cell? ⟨hb, 6, none⟩ = some (.int .i64 P)) (fun w' => w'.cell? ⟨rb, 0, none⟩ = some (.slice a m cap) ∧ w'.cell? ⟨rb, 1, none⟩ = some (.int .i64 (A : Int))) 12 (by kernel_rfl) ?_
  change wpAnyY _ _ _ _ _ _ _ _ _ _ (World.drew _)
  have hS : (fun w' : World => w'.cell? ⟨hb, 0, none⟩ = some (.bool false) ∧ w'.cell? ⟨hb, 1, none⟩ = some (.int .i64 0) ∧ w'.cell? ⟨hb, 2, none⟩ = some (.int .u32 0) ∧ w'.cell? ⟨hb, 3, none⟩ = some (.slice a5 8 c5) ∧ w'.cell? ⟨hb, 4, none⟩ = some (.slice none 0 0) ∧ w'.cell? ⟨hb, 5, none⟩ = some (.int .u64 N) ∧ w'.cell? ⟨hb, 6, none⟩ = some (.int .i64 P)) w12.drew := ⟨g0, g1, g2, g3, g4, g5, g6⟩
  have hT : (fun w' : World => w'.cell? ⟨rb, 0, none⟩ = some (.slice a m cap) ∧ w'.cell? ⟨rb, 1, none⟩ = some (.int .i64 (A : Int))) w12.drew := ⟨c0, c1'⟩
  refine y_take0 (i := 0) (v := ?_) rfl (by kernel_rfl) (by kernel_rfl) (by kernel_rfl) (by decide) (fun _ _ _ h => h) (Or.inl ⟨by kernel_rfl, ?_⟩) ⟨hS, fun _ => hT⟩ ?_
  rotate_left
  · intro wz ⟨_, _, _, _, _, _, _⟩; go_simp; try with_reducible rfl
  refine y_take0 (i := 1) (v := ?_) rfl (by kernel_rfl) (by kernel_rfl) (by kernel_rfl) (by decide) (fun _ _ _ h => h) (Or.inl ⟨by kernel_rfl, ?_⟩) ⟨hS, fun _ => hT⟩ ?_
  rotate_left
  · intro wz ⟨_, _, _, _, _, _, _⟩; go_simp; try with_reducible rfl
  refine y_take0 (i := 2) (v := ?_) rfl (by kernel_rfl) (by kernel_rfl) (by kernel_rfl) (by decide) (fun _ _ _ h => h) (Or.inl ⟨by kernel_rfl, ?_⟩) ⟨hS, fun _ => hT⟩ ?_
  rotate_left
  · intro wz ⟨_, _, _, _, _, _, _⟩; go_simp; try with_reducible rfl
  refine y_take0 (i := 3) (v := ?_) rfl (by kernel_rfl) (by kernel_rfl) (by kernel_rfl) (by decide) (fun _ _ _ h => h) (Or.inl ⟨by kernel_rfl, ?_⟩) ⟨hS, fun _ => hT⟩ ?_
  rotate_left
  · intro wz ⟨_, _, _, _, _, _, _⟩; go_simp; try with_reducible rfl
  refine y_take0 (i := 4) (v := ?_) rfl (by kernel_rfl) (by kernel_rfl) (by kernel_rfl) (by decide) (fun _ _ _ h => h) (Or.inl ⟨by kernel_rfl, ?_⟩) ⟨hS, fun _ => hT⟩ ?_
  rotate_left
  · intro wz ⟨_, _, _, _, _, _, _⟩; go_simp; try with_reducible rfl
  refine y_takeS (i := 5) (v := ?_) rfl (by kernel_rfl) (by kernel_rfl) (by kernel_rfl) (by decide) [6,11,12] (by kernel_rfl) (by kernel_rfl) (by kernel_rfl) (fun _ _ _ h => h) (Or.inl ⟨by kernel_rfl, ?_⟩) ⟨hS, fun _ => hT⟩ ?_
  rotate_left
  · intro wz ⟨_, _⟩; go_simp; try with_reducible rfl
  refine y_take0 (i := 6) (v := ?_) rfl (by kernel_rfl) (by kernel_rfl) (by kernel_rfl) (by decide) (fun _ _ _ h => h) (Or.inl ⟨by kernel_rfl, ?_⟩) ⟨hS, fun _ => hT⟩ ?_
  rotate_left
  · intro wz ⟨_, _, _, _, _, _, _⟩; go_simp; try with_reducible rfl
  refine y_take0 (i := 7) (v := ?_) rfl (by kernel_rfl) (by kernel_rfl) (by kernel_rfl) (by decide) (fun _ _ _ h => h) (Or.inl ⟨by kernel_rfl, ?_⟩) ⟨hS, fun _ => hT⟩ ?_
  rotate_left
  · intro wz ⟨_, _, _, _, _, _, _⟩; go_simp; try with_reducible rfl
  refine y_take0 (i := 8) (v := ?_) rfl (by kernel_rfl) (by kernel_rfl) (by kernel_rfl) (by decide) (fun _ _ _ h => h) (Or.inl ⟨by kernel_rfl, ?_⟩) ⟨hS, fun _ => hT⟩ ?_
  rotate_left
  · intro wz ⟨_, _, _, _, _, _, _⟩; go_simp; try with_reducible rfl
  refine y_take0 (i := 9) (v := ?_) rfl (by kernel_rfl) (by kernel_rfl) (by kernel_rfl) (by decide) (fun _ _ _ h => h) (Or.inl ⟨by kernel_rfl, ?_⟩) ⟨hS, fun _ => hT⟩ ?_
  rotate_left
  · intro wz ⟨_, _, _, _, _, _, _⟩; go_simp; try with_reducible rfl
  refine y_takeS (i := 10) (v := ?_) rfl (by kernel_rfl) (by kernel_rfl) (by kernel_rfl) (by decide) [11,12] (by kernel_rfl) (by kernel_rfl) (by kernel_rfl) (fun _ _ _ h => h) (Or.inl ⟨by kernel_rfl, ?_⟩) ⟨hS, fun _ => hT⟩ ?_
  rotate_left
  · intro wz ⟨_, _⟩; go_simp; try with_reducible rfl
  refine y_take0 (i := 11) (v := ?_) rfl (by kernel_rfl) (by kernel_rfl) (by kernel_rfl) (by decide) (fun _ _ _ h => h) (Or.inl ⟨by kernel_rfl, ?_⟩) ⟨hS, fun _ => hT⟩ ?_
  rotate_left
  · intro wz ⟨_, _, _, _, _, _, _⟩; go_simp; try with_reducible rfl
  clear g0 g1 g2 g3 g4 g5 g6 c0 c1'
  refine y_call 18 #[.pointer (some ⟨rb, 0, none⟩), .int .i64 (yn : Int)] rfl (by kernel_rfl) (by kernel_rfl) (by kernel_rfl) (by kernel_rfl) ?_
  refine (take_any rb a m cap xs A yn _ (HSF.out.drew).by_ (HSF.out.drew).pr hm2 hl HNE.out).mono ?_
  rintro e w13 ⟨a13, c13, rfl, ho13, hr13, hk13⟩
  rw [D9.out] at ho13
  rw [HM1.out] at hr13
  have HO13 := Lib.hid ho13
  have HSG := Lib.hid (HSF.out.drew.next HNE.out hr13 hk13)
  have HZG := Lib.hid (hk13.blk HZF.out.drew (by show ¬ w.heap.size = rb; omega))
  have HHG := Lib.hid (hk13.blk HHF.out.drew (by show ¬ hb = rb; omega))
  have HOG := Lib.hid ((HOF.out.keep ((Keeps.refl (fun _ => False) w12).drew) (fun _ _ h => h)).next hk13 hrl)
  have hrl13 : w.heap.size < w12.drew.heap.size := by have := HHF.out.lt; show w.heap.size < w12.heap.size; omega
  generalize w12.drew.heap.size = B13 at *
  clear ho13 hr13 hk13 u3 hS hT
  obtain ⟨⟨z0, z1, z2, z3, z4, z5, z6⟩, y0, y1, y2, y3, y4, y5, y6⟩ := hd_cells HZG.out
  obtain ⟨⟨g0, g1, g2, g3, g4, g5, g6⟩, _⟩ := hd_cells HHG.out
  have hS : (fun w' : World => w'.cell? ⟨hb, 0, none⟩ = some (.bool false) ∧ w'.cell? ⟨hb, 1, none⟩ = some (.int .i64 0) ∧ w'.cell? ⟨hb, 2, none⟩ = some (.int .u32 0) ∧ w'.cell? ⟨hb, 3, none⟩ = some (.slice a5 8 c5) ∧ w'.cell? ⟨hb, 4, none⟩ = some (.slice none 0 0) ∧ w'.cell? ⟨hb, 5, none⟩ = some (.int .u64 N) ∧ w'.cell? ⟨hb, 6, none⟩ = some (.int .i64 P)) w13 := ⟨g0, g1, g2, g3, g4, g5, g6⟩
  refine ⟨_, rfl, hS, ?_⟩
  have HWF := Lib.hid (hd_set HZG.out (.bool false) (.int .i64 0) (.int .u32 0) (.slice a5 8 c5) (.slice none 0 0) (.int .u64 N) (.int .i64 P))
  have HSH := Lib.hid (hd_st HSG.out (Nat.le_refl _) hrb HA.out (.bool false) (.int .i64 0) (.int .u32 0) (.slice a5 8 c5) (.slice none 0 0) (.int .u64 N) (.int .i64 P))
  have HOH := Lib.hid (hd_bo (b := w.heap.size) HOG.out (by omega) (.bool false) (.int .i64 0) (.int .u32 0) (.slice a5 8 c5) (.slice none 0 0) (.int .u64 N) (.int .i64 P))
  have HO14 := Lib.hid (hd_bo (b := w.heap.size) HO13.out hrl13 (.bool false) (.int .i64 0) (.int .u32 0) (.slice a5 8 c5) (.slice none 0 0) (.int .u64 N) (.int .i64 P))
  have HH14 := Lib.hid (hd_ne HHG.out (show hb ≠ w.heap.size by omega) (.bool false) (.int .i64 0) (.int .u32 0) (.slice a5 8 c5) (.slice none 0 0) (.int .u64 N) (.int .i64 P))
  obtain ⟨⟨l0, l1, l2, l3, l4, l5, l6⟩, _⟩ := hd_cells HH14.out
  refine y_skip (i := 13) (((((((w13.setCell ⟨w.heap.size, 0, none⟩ (.bool false)).setCell ⟨w.heap.size, 1, none⟩ (.int .i64 0)).setCell ⟨w.heap.size, 2, none⟩ (.int .u32 0)).setCell ⟨w.heap.size, 3, none⟩ (.slice a5 8 c5)).setCell ⟨w.heap.size, 4, none⟩ (.slice none 0 0)).setCell ⟨w.heap.size, 5, none⟩ (.int .u64 N)).setCell ⟨w.heap.size, 6, none⟩ (.int .i64 P)) rfl (by kernel_rfl) (by kernel_rfl) (by kernel_rfl) ?_ ⟨l0, l1, l2, l3, l4, l5, l6⟩ ?_
  · go_simp; try with_reducible rfl
  clear g0 g1 g2 g3 g4 g5 g6 z0 z1 z2 z3 z4 z5 z6 y0 y1 y2 y3 y4 y5 y6
  have hS : (fun w' : World => w'.cell? ⟨hb, 0, none⟩ = some (.bool false) ∧ w'.cell? ⟨hb, 1, none⟩ = some (.int .i64 0) ∧ w'.cell? ⟨hb, 2, none⟩ = some (.int .u32 0) ∧ w'.cell? ⟨hb, 3, none⟩ = some (.slice a5 8 c5) ∧ w'.cell? ⟨hb, 4, none⟩ = some (.slice none 0 0) ∧ w'.cell? ⟨hb, 5, none⟩ = some (.int .u64 N) ∧ w'.cell? ⟨hb, 6, none⟩ = some (.int .i64 P)) (((((((w13.setCell ⟨w.heap.size, 0, none⟩ (.bool false)).setCell ⟨w.heap.size, 1, none⟩ (.int .i64 0)).setCell ⟨w.heap.size, 2, none⟩ (.int .u32 0)).setCell ⟨w.heap.size, 3, none⟩ (.slice a5 8 c5)).setCell ⟨w.heap.size, 4, none⟩ (.slice none 0 0)).setCell ⟨w.heap.size, 5, none⟩ (.int .u64 N)).setCell ⟨w.heap.size, 6, none⟩ (.int .i64 P)) := ⟨l0, l1, l2, l3, l4, l5, l6⟩
  clear l0 l1 l2 l3 l4 l5 l6
  generalize (((((((w13.setCell ⟨w.heap.size, 0, none⟩ (.bool false)).setCell ⟨w.heap.size, 1, none⟩ (.int .i64 0)).setCell ⟨w.heap.size, 2, none⟩ (.int .u32 0)).setCell ⟨w.heap.size, 3, none⟩ (.slice a5 8 c5)).setCell ⟨w.heap.size, 4, none⟩ (.slice none 0 0)).setCell ⟨w.heap.size, 5, none⟩ (.int .u64 N)).setCell ⟨w.heap.size, 6, none⟩ (.int .i64 P)) = w14 at *
  refine y_take1 (i := 14) (v := ?_) rfl (by kernel_rfl) (by kernel_rfl) (by kernel_rfl) (by decide) (by kernel_rfl) (fun _ _ _ h => h) (Or.inl ⟨by kernel_rfl, ?_⟩) hS ?_
  rotate_left
  · intro wz ⟨_, _, _, _, _, _, _⟩; go_simp; try with_reducible rfl
  refine y_done (by kernel_rfl) ?_ _
  clear hS
  refine then_named ?_
  intro fr hfr
  have h2 : fr.tmps[2]?.getD undef = .pointer (some ⟨w.heap.size, 0, none⟩) := by rw [hfr]; kernel_rfl
  have h3 : fr.tmps[3]?.getD undef = .slice a13 yn c13 := by rw [hfr]; kernel_rfl
  have hd0 : fr.defers = [] := by rw [hfr]; kernel_rfl
  clear hfr
  go_wp2_with fail
  refine bodyPost_ret (packet_results fr.tmps w14 _ _ _ _ _ _ _ _ _ _ h2 h3 HWF.out) hd0 ?_
  have hB5 : w.heap.size ≤ B5 := by omega
  have hB13 : w.heap.size ≤ B13 := by omega
  exact ⟨a5, c5, a13, c13, rfl, HOH.out.mono hB5, HO14.out.mono hB13, HSH.out.pr, HSH.out.kp⟩

end Go.Proofs.Ytaokhgpidifedaa
