/- packet of the package qpkt, where the packet is long. -/
import Derived.Test.YtaokhgpidifedaaPktB
namespace Go.Proofs.Ytaokhgpidifedaa
open Go.RowKit Go.Deep

set_option maxRecDepth 100000 in
set_option maxHeartbeats 3200000 in
theorem packet_long (rb : Nat) (a : Option Addr) (m cap : Nat) (T V : Int) (dx sx : List UInt8) (N : Int) (P : Nat) (ys more : List UInt8) (w : World)
    (hb : By w a m cap (pktL T V dx sx N P ys ++ more)) (hr : Pr w rb a m cap 0) (hl : m ≤ 1000000000) (ha : ∀ b, a.map (·.block) = some b → b < w.heap.size) (hne : ∀ b, a.map (·.block) = some b → b ≠ rb)
    (t0 : 0 ≤ T) (t1 : T ≤ 3) (v0 : 0 ≤ V) (v1 : V < 4294967296) (hd : dx.length ≤ 20) (hs : sx.length ≤ 20) (p0 : 1 ≤ P) (p1 : P ≤ 4) (n0 : 0 ≤ N) (n1 : N < 2 ^ (8 * P)) (hy : ys.length ≤ 1200) :
    Calls Try.prog 13 #[.pointer (some ⟨rb, 0, none⟩)] w fun e w' => ∃ a1 c1 a2 c2 a3 c3, e = .returned (.tuple #[.agg #[.bool true, .int .i64 T, .int .u32 V, .slice a1 dx.length c1, .slice a2 sx.length c2, .int .u64 N, .int .i64 P], .slice a3 ys.length c3]) ∧
      Bo w.heap.size w' a1 dx.length c1 dx ∧ Bo w.heap.size w' a2 sx.length c2 sx ∧ Bo w.heap.size w' a3 ys.length c3 ys ∧ Pr w' rb a m cap (pktL T V dx sx N P ys).length ∧ Keeps (fun k => k = rb) w w' := by
  obtain ⟨F, hF, f0, f1, f2, f3, f4, f5, f6⟩ := first_long T P t0 t1 p0 p1
  have hrb := hr.lt
  have HF := Lib.hid hF
  have HF2 := Lib.hid f2
  have HF3 := Lib.hid f3
  have HF4 := Lib.hid f4
  have HF5 := Lib.hid f5
  have HF6 := Lib.hid f6
  have HNE := Lib.hid hne
  have HA := Lib.hid ha
  have HST := Lib.hid (St.mk hb hr (Keeps.refl (fun k => k = rb) w))
  have HV : Hid (numF 0 (bigD V 4) = V) := Lib.hid (numF_of V 4 (by decide) v0 (by omega))
  have HN : Hid (numF 0 (bigD N P) = N) := Lib.hid (numF_of N P (by omega) n0 n1)
  obtain ⟨xs, hxs⟩ : ∃ xs, pktL T V dx sx N P ys ++ more = xs := ⟨_, rfl⟩
  obtain ⟨k, R1, R2, hk, r1, r2, r3, k1, k8, d0, d1, d5, d6, d7, d8, d9, hlen, hxl⟩ := pktL_drops T V dx sx N P ys more xs hxs hd hs p0 p1 hy
  rw [hxs] at HST
  have hm : m = xs.length := HST.out.by_.1
  obtain ⟨dn, hdn⟩ : ∃ dn, dx.length = dn := ⟨_, rfl⟩
  obtain ⟨sn, hsn⟩ : ∃ sn, sx.length = sn := ⟨_, rfl⟩
  obtain ⟨yn, hyn⟩ : ∃ yn, ys.length = yn := ⟨_, rfl⟩
  rw [hdn, hsn, hyn] at d9 hlen hxl
  rw [hyn] at r3 hk
  rw [hdn, hsn] at d7 d8
  rw [hdn] at d5 d6
  rw [hsn] at d6
  rw [hdn, hsn, hyn, hlen]
  rw [hdn] at hd
  rw [hsn] at hs
  rw [hyn] at hy
  have hm1 : 7 + dn + sn + k + P + yn ≤ m := by omega
  have D0 := Lib.hid d0
  have D1 := Lib.hid d1
  have D5 := Lib.hid d5
  have D6 := Lib.hid d6
  have D7 := Lib.hid d7
  have D8 := Lib.hid d8
  have D9 := Lib.hid d9
  have R1' := Lib.hid r1
  have R2' := Lib.hid r2
  have R3' := Lib.hid r3
  have HDN := Lib.hid hdn
  have HSN := Lib.hid hsn
  have HYN := Lib.hid hyn
  have bdn : (byt dn).toNat = dn := by have := byt_val dn; omega
  have bsn : (byt sn).toNat = sn := by have := byt_val sn; omega
  have BDN := Lib.hid bdn
  have BSN := Lib.hid bsn
  clear hF f2 f3 f4 f5 f6 hne ha hb hr hxs hm hk r1 r2 r3 d0 d1 d5 d6 d7 d8 d9 hlen hxl hdn hsn hyn bdn bsn
  go_enter Try.func13, Try.ntmps13
  go_wp2_with fail
  have HS1 := Lib.hid (HST.out.alloc (.cells #[.bool false, .int .i64 0, .int .u32 0, .slice none 0 0, .slice none 0 0, .int .u64 0, .int .i64 0] 29 (0, 0)))
  refine (take_any rb a m cap xs 0 1 _ HS1.out.by_ HS1.out.pr (by omega) hl HNE.out).mono ?_
  rintro e w1 ⟨a1, c1, rfl, ho1, hr1, hk1⟩
  rw [D0.out] at ho1
  obtain ⟨g, rfl, hg0, hg1, hcell, hfree⟩ := ho1.row (by omega)
  have e0 : w1.cell? ⟨g, 0, none⟩ = some (.int .u8 F) := by rw [hcell 0 (by simp), ← HF.out]; rfl
  have HS2 := Lib.hid (HS1.out.next HNE.out hr1 hk1)
  have HZ2 := Lib.hid (hk1.blk (Blk.new w #[.bool false, .int .i64 0, .int .u32 0, .slice none 0 0, .slice none 0 0, .int .u64 0, .int .i64 0] 29) (by show ¬ w.heap.size = rb; omega))
  have hs1 : w.heap.size + 1 ≤ w1.heap.size := by have := hk1.size; simp at this; exact this
  have f2 := HF2.out
  clear ho1 hr1 hk1 hcell hfree hg0
  go_wp2_with fail
  refine (must_ok w1).mono ?_
  rintro e w2 ⟨rfl, rfl⟩
  clear e0 f2
  have f3 := HF3.out
  have f4 := HF4.out
  have f5 := HF5.out
  go_wp2_with fail
  refine (must_ok _).mono ?_
  rintro e w3 ⟨rfl, hw3⟩
  have HS3 : Hid (St w rb a m cap xs w3 1) := Lib.hid (hw3 ▸ HS2.out.alloc (.cells #[.bool true, .int .i64 0, .int .u32 0, .slice none 0 0, .slice none 0 0, .int .u64 0, .int .i64 P] 29 (0, 0)))
  have HZ3 : Hid (Blk w3 w.heap.size #[.bool false, .int .i64 0, .int .u32 0, .slice none 0 0, .slice none 0 0, .int .u64 0, .int .i64 0] 29) := Lib.hid (hw3 ▸ HZ2.out.alloc _)
  have HH3 : Hid (Blk w3 w1.heap.size #[.bool true, .int .i64 0, .int .u32 0, .slice none 0 0, .slice none 0 0, .int .u64 0, .int .i64 P] 29) := Lib.hid (hw3 ▸ Blk.new w1 #[.bool true, .int .i64 0, .int .u32 0, .slice none 0 0, .slice none 0 0, .int .u64 0, .int .i64 P] 29)
  clear hw3 f3 f4 f5 hg1
  generalize w1.heap.size = hb at *
  have hbz : w.heap.size ≤ hb := by omega
  have f6 := HF6.out
  have y1 : w3.frozen? ⟨hb, 1, none⟩ = false := HH3.out.free 1
  have q1 : w3.cell? ⟨hb, 1, none⟩ = some (.int .i64 0) := HH3.out.cell 1
  go_wp2_with fail
  have HS4 := Lib.hid (HS3.out.set (o := 1) hbz hrb HA.out (.int .i64 T))
  have HZ4 := Lib.hid (HZ3.out.set_ne (a := ⟨hb, 1, none⟩) (by show w.heap.size ≠ hb; omega) (.int .i64 T))
  have HH4 := Lib.hid (HH3.out.set 1 (.int .i64 T))
  clear f6 y1 q1
  refine (rbig_any rb a m cap xs 1 4 _ HS4.out.by_ HS4.out.pr (by omega) hl HNE.out (by decide)).mono ?_
  rintro e w4 ⟨rfl, hr4, hk4⟩
  rw [D1.out, HV.out]
  have HS5 := Lib.hid (HS4.out.next HNE.out hr4 hk4)
  have HZ5 := Lib.hid (hk4.blk HZ4.out (by show ¬ w.heap.size = rb; omega))
  have HH5 := Lib.hid (hk4.blk HH4.out (by show ¬ hb = rb; omega))
  clear hr4 hk4
  have y2 : w4.frozen? ⟨hb, 2, none⟩ = false := HH5.out.free 2
  have q2 : w4.cell? ⟨hb, 2, none⟩ = some (.int .u32 0) := HH5.out.cell 2
  go_wp2_with fail
  have HS6 := Lib.hid (HS5.out.set (o := 2) hbz hrb HA.out (.int .u32 V))
  have HZ6 := Lib.hid (HZ5.out.set_ne (a := ⟨hb, 2, none⟩) (by show w.heap.size ≠ hb; omega) (.int .u32 V))
  have HH6 := Lib.hid (HH5.out.set 2 (.int .u32 V))
  clear y2 q2
  refine (rid_any rb a m cap xs 5 (byt dn) dx R1 _ HS6.out.by_ HS6.out.pr D5.out (by rw [BDN.out, HDN.out]) (by rw [HDN.out]; exact hd) hl HNE.out).mono ?_
  rintro e w5 ⟨a5, c5, rfl, ho5, hr5, hk5⟩
  rw [HDN.out] at ho5 hr5 ⊢
  rw [show 5 + 1 + dn = 6 + dn by omega] at hr5
  have hbl : hb < (w4.setCell ⟨hb, 2, none⟩ (.int .u32 V)).heap.size := HH6.out.lt
  have HS7 := Lib.hid (HS6.out.next HNE.out hr5 hk5)
  have HZ7 := Lib.hid (hk5.blk HZ6.out (by show ¬ w.heap.size = rb; omega))
  have HH7 := Lib.hid (hk5.blk HH6.out (by show ¬ hb = rb; omega))
  have hrl : rb < (w4.setCell ⟨hb, 2, none⟩ (.int .u32 V)).heap.size := by omega
  generalize (w4.setCell ⟨hb, 2, none⟩ (.int .u32 V)).heap.size = B5 at *
  have HO5 := Lib.hid ho5
  clear ho5 hr5 hk5
  have y3 : w5.frozen? ⟨hb, 3, none⟩ = false := HH7.out.free 3
  have q3 : w5.cell? ⟨hb, 3, none⟩ = some (.slice none 0 0) := HH7.out.cell 3
  go_wp2_with fail
  have HS8 := Lib.hid (HS7.out.set (o := 3) hbz hrb HA.out (.slice a5 dn c5))
  have HZ8 := Lib.hid (HZ7.out.set_ne (a := ⟨hb, 3, none⟩) (by show w.heap.size ≠ hb; omega) (.slice a5 dn c5))
  have HH8 := Lib.hid (HH7.out.set 3 (.slice a5 dn c5))
  have HO8 := Lib.hid (HO5.out.put (o := 3) hbl (.slice a5 dn c5))
  clear y3 q3
  obtain ⟨A, hA⟩ : ∃ A, 7 + dn + sn = A := ⟨_, rfl⟩
  rw [hA] at D7 D8 D9 hm1
  refine (rid_any rb a m cap xs (6 + dn) (byt sn) sx R2 _ HS8.out.by_ HS8.out.pr D6.out (by rw [BSN.out, HSN.out]) (by rw [HSN.out]; exact hs) hl HNE.out).mono ?_
  rintro e w6 ⟨a6, c6, rfl, ho6, hr6, hk6⟩
  rw [HSN.out] at ho6 hr6 ⊢
  rw [show 6 + dn + 1 + sn = A by omega] at hr6
  have hrl6 : hb < (w5.setCell ⟨hb, 3, none⟩ (.slice a5 dn c5)).heap.size := HH8.out.lt
  have hrl7 : rb < (w5.setCell ⟨hb, 3, none⟩ (.slice a5 dn c5)).heap.size := by omega
  have HS9 := Lib.hid (HS8.out.next HNE.out hr6 hk6)
  have HZ9 := Lib.hid (hk6.blk HZ8.out (by show ¬ w.heap.size = rb; omega))
  have HH9 := Lib.hid (hk6.blk HH8.out (by show ¬ hb = rb; omega))
  have HO9 := Lib.hid (HO8.out.next hk6 hrl)
  generalize (w5.setCell ⟨hb, 3, none⟩ (.slice a5 dn c5)).heap.size = B6 at *
  have HP9 := Lib.hid ho6
  clear ho6 hr6 hk6
  have y4 : w6.frozen? ⟨hb, 4, none⟩ = false := HH9.out.free 4
  have q4 : w6.cell? ⟨hb, 4, none⟩ = some (.slice none 0 0) := HH9.out.cell 4
  have HAE := Lib.hid hA
  clear hA
  go_upto_region 14 with fail
  have HSA := Lib.hid (HS9.out.set (o := 4) hbz hrb HA.out (.slice a6 sn c6))
  have HZA := Lib.hid (HZ9.out.set_ne (a := ⟨hb, 4, none⟩) (by show w.heap.size ≠ hb; omega) (.slice a6 sn c6))
  have HHA := Lib.hid (HH9.out.set 4 (.slice a6 sn c6))
  have HOA := Lib.hid (HO9.out.put (o := 4) hbl (.slice a6 sn c6))
  have HPA := Lib.hid (HP9.out.put (o := 4) hrl6 (.slice a6 sn c6))
  clear y4 q4
  generalize w6.setCell ⟨hb, 4, none⟩ (.slice a6 sn c6) = w7 at *
  obtain ⟨⟨c0, c1'⟩, y1⟩ := HSA.out.pr.cells
  have ho := offA_eq a cap A
  have z1 : (0 : Int) ≤ (A : Int) := by omega
  have z2 : (A : Int) ≤ (m : Int) := by omega
  have hcap : m ≤ cap := HSA.out.by_.2.le
  have z3 : (m : Int) ≤ (cap : Int) := by omega
  have HF14 := Lib.hid (HSA.out.by_.from A (by omega))
  rw [D7.out] at HF14
  go_region_held3 (fun w' => w'.cell? ⟨rb, 0, none⟩ = some (.slice a m cap) ∧ w'.cell? ⟨rb, 1, none⟩ = some (.int .i64 (A : Int))) (first | exact ⟨c0, c1'⟩ | go_keep) ((go_at_call 22; refine (readvar_any (offA a cap A) (m - A) (cap - A) R2 _ (By.drew2 HF14.out)).mono ?_; rintro e w' ⟨rfl, rfl⟩; rw [R1'.out, R2'.out, R3'.out]; dsimp only))
  rename_i hheld
  clear ho z3 hheld
  go_wp2_with fail
  refine (must_ok _).mono ?_
  rintro e w8 ⟨rfl, hw8⟩
  have HSB : Hid (St w rb a m cap xs w8 A) := Lib.hid (hw8 ▸ HSA.out.drew)
  have HZB : Hid (Blk w8 w.heap.size #[.bool false, .int .i64 0, .int .u32 0, .slice none 0 0, .slice none 0 0, .int .u64 0, .int .i64 0] 29) := Lib.hid (hw8 ▸ HZA.out.drew)
  have HHB : Hid (Blk w8 hb #[.bool true, .int .i64 T, .int .u32 V, .slice a5 dn c5, .slice a6 sn c6, .int .u64 0, .int .i64 P] 29) := Lib.hid (hw8 ▸ HHA.out.drew)
  have HOB : Hid (Bo B5 w8 a5 dn c5 dx) := Lib.hid (hw8 ▸ HOA.out.keep ((Keeps.refl (fun _ => False) w7).drew) (fun _ _ h => h))
  have HPB : Hid (Bo B6 w8 a6 sn c6 sx) := Lib.hid (hw8 ▸ HPA.out.keep ((Keeps.refl (fun _ => False) w7).drew) (fun _ _ h => h))
  clear hw8 y1 c0 c1'
  obtain ⟨⟨c0, c1'⟩, y1⟩ := HSB.out.pr.cells
  go_upto_region 17 with fail
  have hrs := (Keeps.refl (fun k => k = rb) w8).put 1 (.int .i64 ((A : Int) + (k : Int)))
  obtain ⟨A2, hA2⟩ : ∃ A2, A + k = A2 := ⟨_, rfl⟩
  have HSC : Hid (St w rb a m cap xs (w8.setCell ⟨rb, 1, none⟩ (.int .i64 ((A : Int) + (k : Int)))) A2) := Lib.hid (by
    refine HSB.out.next HNE.out ?_ hrs
    have h := Blk.set HSB.out.pr 1 (.int .i64 ((A : Int) + (k : Int)))
    unfold Pr
    rw [← hA2, show ((A + k : Nat) : Int) = (A : Int) + (k : Int) by omega]
    exact h)
  have HZC := Lib.hid (hrs.blk HZB.out (by show ¬ w.heap.size = rb; omega))
  have HHC := Lib.hid (hrs.blk HHB.out (by show ¬ hb = rb; omega))
  have HOC := Lib.hid (HOB.out.next hrs hrl)
  have HPC := Lib.hid (HPB.out.next hrs hrl7)
  rw [hA2] at D8 D9 hm1
  have HA2 := Lib.hid hA2
  clear hrs y1 c0 c1' hA2
  generalize w8.setCell ⟨rb, 1, none⟩ (.int .i64 ((A : Int) + (k : Int))) = w9 at *
  obtain ⟨⟨c0, c1'⟩, y1⟩ := HSC.out.pr.cells
  have c6' : w9.cell? ⟨hb, 6, none⟩ = some (.int .i64 P) := HHC.out.cell 6
  have u1 : IntKind.u64.wrap (P : Int) = (P : Int) := by rw [IntKind.wrap_u64]; omega
  have u2 : decide ((P : Int) ≤ (P : Int) + (yn : Int)) = true := decide_eq_true (by omega)
  have u3 : IntKind.i64.wrap ((m : Int) - (A2 : Int)) = (m : Int) - (A2 : Int) := by rw [IntKind.wrap_i64]; omega
  have u4 : IntKind.u64.wrap ((m : Int) - (A2 : Int)) = (m : Int) - (A2 : Int) := by rw [IntKind.wrap_u64]; omega
  have u5 : decide ((P : Int) + (yn : Int) ≤ (m : Int) - (A2 : Int)) = true := decide_eq_true (by omega)
  go_region_held3 (fun w' => w'.cell? ⟨rb, 0, none⟩ = some (.slice a m cap) ∧ w'.cell? ⟨rb, 1, none⟩ = some (.int .i64 (A2 : Int)) ∧ w'.cell? ⟨hb, 6, none⟩ = some (.int .i64 P)) (first | exact ⟨c0, c1', c6'⟩ | go_keep) ((go_at_call 19; refine (must_ok _).mono ?_; rintro e w10 ⟨rfl, rfl⟩; dsimp only))
  rename_i hheld
  clear hheld u1 u2 u3 u4 u5 c0 c1' y1
  have c6d : w9.drew.cell? ⟨hb, 6, none⟩ = some (.int .i64 P) := c6'
  clear c6'
  have HSD := Lib.hid HSC.out.drew
  have HZD := Lib.hid HZC.out.drew
  have HHD := Lib.hid HHC.out.drew
  have HOD := Lib.hid (HOC.out.keep ((Keeps.refl (fun _ => False) w9).drew) (fun _ _ h => h))
  have HPD := Lib.hid (HPC.out.keep ((Keeps.refl (fun _ => False) w9).drew) (fun _ _ h => h))
  generalize w9.drew = w10 at *
  go_wp2_with fail
  refine (rbig_any rb a m cap xs A2 P _ HSD.out.by_ HSD.out.pr (by omega) hl HNE.out (by omega)).mono ?_
  rintro e w11 ⟨rfl, hr11, hk11⟩
  rw [D8.out, HN.out]
  have HSE := Lib.hid (HSD.out.next HNE.out hr11 hk11)
  have HZE := Lib.hid (hk11.blk HZD.out (by show ¬ w.heap.size = rb; omega))
  have HHE := Lib.hid (hk11.blk HHD.out (by show ¬ hb = rb; omega))
  have HOE := Lib.hid (HOD.out.next hk11 hrl)
  have HPE := Lib.hid (HPD.out.next hk11 hrl7)
  clear hr11 hk11 c6d
  have y5 : w11.frozen? ⟨hb, 5, none⟩ = false := HHE.out.free 5
  have q5 : w11.cell? ⟨hb, 5, none⟩ = some (.int .u64 0) := HHE.out.cell 5
  go_upto_region 19 with fail
  have HSF := Lib.hid (HSE.out.set (o := 5) hbz hrb HA.out (.int .u64 N))
  have HZF := Lib.hid (HZE.out.set_ne (a := ⟨hb, 5, none⟩) (by show w.heap.size ≠ hb; omega) (.int .u64 N))
  have HHF : Hid (Blk (w11.setCell ⟨hb, 5, none⟩ (.int .u64 N)) hb #[.bool true, .int .i64 T, .int .u32 V, .slice a5 dn c5, .slice a6 sn c6, .int .u64 N, .int .i64 P] 29) := Lib.hid (HHE.out.set 5 (.int .u64 N))
  have HOF := Lib.hid (HOE.out.put (o := 5) hbl (.int .u64 N))
  have HPF := Lib.hid (HPE.out.put (o := 5) hrl6 (.int .u64 N))
  clear y5 q5
  generalize w11.setCell ⟨hb, 5, none⟩ (.int .u64 N) = w12 at *
  have g0 : w12.cell? ⟨hb, 0, none⟩ = some (.bool true) := HHF.out.cell 0
  have g1 : w12.cell? ⟨hb, 1, none⟩ = some (.int .i64 T) := HHF.out.cell 1
  have g2 : w12.cell? ⟨hb, 2, none⟩ = some (.int .u32 V) := HHF.out.cell 2
  have g3 : w12.cell? ⟨hb, 3, none⟩ = some (.slice a5 dn c5) := HHF.out.cell 3
  have g4 : w12.cell? ⟨hb, 4, none⟩ = some (.slice a6 sn c6) := HHF.out.cell 4
  have g5 : w12.cell? ⟨hb, 5, none⟩ = some (.int .u64 N) := HHF.out.cell 5
  have g6 : w12.cell? ⟨hb, 6, none⟩ = some (.int .i64 P) := HHF.out.cell 6
  have u1 : IntKind.i64.wrap ((P : Int) + (yn : Int)) = (P : Int) + (yn : Int) := by rw [IntKind.wrap_i64]; omega
  have u2 : IntKind.i64.wrap ((P : Int) + (yn : Int) - (P : Int)) = (yn : Int) := by rw [IntKind.wrap_i64]; omega
  have u3 : IntKind.i64.wrap (yn : Int) = (yn : Int) := by rw [IntKind.wrap_i64]; omega
  have hne2 : w.heap.size ≠ hb := by omega
  refine wp_region_held (S := fun w' => w'.cell? ⟨hb, 0, none⟩ = some (.bool true) ∧ w'.cell? ⟨hb, 1, none⟩ = some (.int .i64 T) ∧ w'.cell? ⟨hb, 2, none⟩ = some (.int .u32 V) ∧ w'.cell? ⟨hb, 3, none⟩ = some (.slice a5 dn c5) ∧ w'.cell? ⟨hb, 4, none⟩ = some (.slice a6 sn c6) ∧ w'.cell? ⟨hb, 5, none⟩ = some (.int .u64 N) ∧ w'.cell? ⟨hb, 6, none⟩ = some (.int .i64 P)) (by kernel_rfl) ?_
  change wpAnyH _ _ _ _ _ _ _ _ (World.drew _)
  have hS : (fun w' : World => w'.cell? ⟨hb, 0, none⟩ = some (.bool true) ∧ w'.cell? ⟨hb, 1, none⟩ = some (.int .i64 T) ∧ w'.cell? ⟨hb, 2, none⟩ = some (.int .u32 V) ∧ w'.cell? ⟨hb, 3, none⟩ = some (.slice a5 dn c5) ∧ w'.cell? ⟨hb, 4, none⟩ = some (.slice a6 sn c6) ∧ w'.cell? ⟨hb, 5, none⟩ = some (.int .u64 N) ∧ w'.cell? ⟨hb, 6, none⟩ = some (.int .i64 P)) w12.drew := ⟨g0, g1, g2, g3, g4, g5, g6⟩
  refine wpAnyH_take (i := 0) (v := ?_) rfl (by kernel_rfl) (by kernel_rfl) (by kernel_rfl) (fun _ _ _ h => h) (Or.inl ⟨by kernel_rfl, ?_⟩) hS ?_
  rotate_left
  · intro wz ⟨_, _, _, _, _, _, _⟩; go_simp; try with_reducible rfl
  refine wpAnyH_take (i := 1) (v := ?_) rfl (by kernel_rfl) (by kernel_rfl) (by kernel_rfl) (fun _ _ _ h => h) (Or.inl ⟨by kernel_rfl, ?_⟩) hS ?_
  rotate_left
  · intro wz ⟨_, _, _, _, _, _, _⟩; go_simp; try with_reducible rfl
  refine wpAnyH_take (i := 2) (v := ?_) rfl (by kernel_rfl) (by kernel_rfl) (by kernel_rfl) (fun _ _ _ h => h) (Or.inl ⟨by kernel_rfl, ?_⟩) hS ?_
  rotate_left
  · intro wz ⟨_, _, _, _, _, _, _⟩; go_simp; try with_reducible rfl
  refine wpAnyH_take (i := 3) (v := ?_) rfl (by kernel_rfl) (by kernel_rfl) (by kernel_rfl) (fun _ _ _ h => h) (Or.inl ⟨by kernel_rfl, ?_⟩) hS ?_
  rotate_left
  · intro wz ⟨_, _, _, _, _, _, _⟩; go_simp; try with_reducible rfl
  refine wpAnyH_take (i := 4) (v := ?_) rfl (by kernel_rfl) (by kernel_rfl) (by kernel_rfl) (fun _ _ _ h => h) (Or.inl ⟨by kernel_rfl, ?_⟩) hS ?_
  rotate_left
  · intro wz ⟨_, _, _, _, _, _, _⟩; go_simp; try with_reducible rfl
  refine wpAnyH_take (i := 5) (v := ?_) rfl (by kernel_rfl) (by kernel_rfl) (by kernel_rfl) (fun _ _ _ h => h) (Or.inl ⟨by kernel_rfl, ?_⟩) hS ?_
  rotate_left
  · intro wz ⟨_, _, _, _, _, _, _⟩; go_simp; try with_reducible rfl
  refine wpAnyH_take (i := 6) (v := ?_) rfl (by kernel_rfl) (by kernel_rfl) (by kernel_rfl) (fun _ _ _ h => h) (Or.inl ⟨by kernel_rfl, ?_⟩) hS ?_
  rotate_left
  · intro wz ⟨_, _, _, _, _, _, _⟩; go_simp; try with_reducible rfl
  clear g0 g1 g2 g3 g4 g5 g6
  refine held_call (i := 7) 18 #[.pointer (some ⟨rb, 0, none⟩), .int .i64 (yn : Int)] rfl (by kernel_rfl) (by kernel_rfl) (by kernel_rfl) ?_
  refine (take_any rb a m cap xs (A2 + P) yn _ (HSF.out.drew).by_ (HSF.out.drew).pr (by omega) hl HNE.out).mono ?_
  rintro e w13 ⟨a13, c13, rfl, ho13, hr13, hk13⟩
  rw [D9.out] at ho13
  have HO13 := Lib.hid ho13
  have HSG := Lib.hid (HSF.out.drew.next HNE.out hr13 hk13)
  have HZG := Lib.hid (hk13.blk HZF.out.drew (by show ¬ w.heap.size = rb; omega))
  have HHG := Lib.hid (hk13.blk HHF.out.drew (by show ¬ hb = rb; omega))
  have HOG := Lib.hid ((HOF.out.keep ((Keeps.refl (fun _ => False) w12).drew) (fun _ _ h => h)).next hk13 hrl)
  have HPG := Lib.hid ((HPF.out.keep ((Keeps.refl (fun _ => False) w12).drew) (fun _ _ h => h)).next hk13 hrl7)
  have hrl13 : w.heap.size < w12.drew.heap.size := by have := HHF.out.lt; show w.heap.size < w12.heap.size; omega
  generalize w12.drew.heap.size = B13 at *
  clear ho13 hr13 hk13 u1 u2 u3 hS
  obtain ⟨⟨z0, z1, z2, z3, z4, z5, z6⟩, y0, y1, y2, y3, y4, y5, y6⟩ := hd_cells HZG.out
  obtain ⟨⟨g0, g1, g2, g3, g4, g5, g6⟩, _⟩ := hd_cells HHG.out
  have hS : (fun w' : World => w'.cell? ⟨hb, 0, none⟩ = some (.bool true) ∧ w'.cell? ⟨hb, 1, none⟩ = some (.int .i64 T) ∧ w'.cell? ⟨hb, 2, none⟩ = some (.int .u32 V) ∧ w'.cell? ⟨hb, 3, none⟩ = some (.slice a5 dn c5) ∧ w'.cell? ⟨hb, 4, none⟩ = some (.slice a6 sn c6) ∧ w'.cell? ⟨hb, 5, none⟩ = some (.int .u64 N) ∧ w'.cell? ⟨hb, 6, none⟩ = some (.int .i64 P)) w13 := ⟨g0, g1, g2, g3, g4, g5, g6⟩
  refine ⟨_, rfl, hS, ?_⟩
  have hwf := hd_set HZG.out (.bool true) (.int .i64 T) (.int .u32 V) (.slice a5 dn c5) (.slice a6 sn c6) (.int .u64 N) (.int .i64 P)
  have HWF := Lib.hid hwf
  have HSH := Lib.hid (hd_st HSG.out (Nat.le_refl _) hrb HA.out (.bool true) (.int .i64 T) (.int .u32 V) (.slice a5 dn c5) (.slice a6 sn c6) (.int .u64 N) (.int .i64 P))
  have HOH := Lib.hid (hd_bo (b := w.heap.size) HOG.out (by omega) (.bool true) (.int .i64 T) (.int .u32 V) (.slice a5 dn c5) (.slice a6 sn c6) (.int .u64 N) (.int .i64 P))
  have HPH := Lib.hid (hd_bo (b := w.heap.size) HPG.out (by omega) (.bool true) (.int .i64 T) (.int .u32 V) (.slice a5 dn c5) (.slice a6 sn c6) (.int .u64 N) (.int .i64 P))
  have HO14 := Lib.hid (hd_bo HO13.out hrl13 (.bool true) (.int .i64 T) (.int .u32 V) (.slice a5 dn c5) (.slice a6 sn c6) (.int .u64 N) (.int .i64 P))
  have HH14 := Lib.hid (hd_ne HHG.out (show hb ≠ w.heap.size by omega) (.bool true) (.int .i64 T) (.int .u32 V) (.slice a5 dn c5) (.slice a6 sn c6) (.int .u64 N) (.int .i64 P))
  clear hwf
  obtain ⟨⟨l0, l1, l2, l3, l4, l5, l6⟩, _⟩ := hd_cells HH14.out
  refine held_skip (i := 8) (((((((w13.setCell ⟨w.heap.size, 0, none⟩ (.bool true)).setCell ⟨w.heap.size, 1, none⟩ (.int .i64 T)).setCell ⟨w.heap.size, 2, none⟩ (.int .u32 V)).setCell ⟨w.heap.size, 3, none⟩ (.slice a5 dn c5)).setCell ⟨w.heap.size, 4, none⟩ (.slice a6 sn c6)).setCell ⟨w.heap.size, 5, none⟩ (.int .u64 N)).setCell ⟨w.heap.size, 6, none⟩ (.int .i64 P)) rfl (by kernel_rfl) (by kernel_rfl) ?_ ⟨l0, l1, l2, l3, l4, l5, l6⟩ ?_
  · go_simp; try with_reducible rfl
  clear g0 g1 g2 g3 g4 g5 g6 z0 z1 z2 z3 z4 z5 z6 y0 y1 y2 y3 y4 y5 y6
  have hS : (fun w' : World => w'.cell? ⟨hb, 0, none⟩ = some (.bool true) ∧ w'.cell? ⟨hb, 1, none⟩ = some (.int .i64 T) ∧ w'.cell? ⟨hb, 2, none⟩ = some (.int .u32 V) ∧ w'.cell? ⟨hb, 3, none⟩ = some (.slice a5 dn c5) ∧ w'.cell? ⟨hb, 4, none⟩ = some (.slice a6 sn c6) ∧ w'.cell? ⟨hb, 5, none⟩ = some (.int .u64 N) ∧ w'.cell? ⟨hb, 6, none⟩ = some (.int .i64 P)) (((((((w13.setCell ⟨w.heap.size, 0, none⟩ (.bool true)).setCell ⟨w.heap.size, 1, none⟩ (.int .i64 T)).setCell ⟨w.heap.size, 2, none⟩ (.int .u32 V)).setCell ⟨w.heap.size, 3, none⟩ (.slice a5 dn c5)).setCell ⟨w.heap.size, 4, none⟩ (.slice a6 sn c6)).setCell ⟨w.heap.size, 5, none⟩ (.int .u64 N)).setCell ⟨w.heap.size, 6, none⟩ (.int .i64 P)) := ⟨l0, l1, l2, l3, l4, l5, l6⟩
  clear l0 l1 l2 l3 l4 l5 l6
  generalize (((((((w13.setCell ⟨w.heap.size, 0, none⟩ (.bool true)).setCell ⟨w.heap.size, 1, none⟩ (.int .i64 T)).setCell ⟨w.heap.size, 2, none⟩ (.int .u32 V)).setCell ⟨w.heap.size, 3, none⟩ (.slice a5 dn c5)).setCell ⟨w.heap.size, 4, none⟩ (.slice a6 sn c6)).setCell ⟨w.heap.size, 5, none⟩ (.int .u64 N)).setCell ⟨w.heap.size, 6, none⟩ (.int .i64 P)) = w14 at *
  refine wpAnyH_take (i := 9) (v := ?_) rfl (by kernel_rfl) (by kernel_rfl) (by kernel_rfl) (fun _ _ _ h => h) (Or.inl ⟨by kernel_rfl, ?_⟩) hS ?_
  rotate_left
  · intro wz ⟨_, _, _, _, _, _, _⟩; go_simp; try with_reducible rfl
  refine wpAnyH_done (by kernel_rfl) ?_ _
  clear hS
  refine then_named ?_
  intro fr hfr
  have h2 : fr.tmps[2]?.getD undef = .pointer (some ⟨w.heap.size, 0, none⟩) := by rw [hfr]; kernel_rfl
  have h3 : fr.tmps[3]?.getD undef = .slice a13 yn c13 := by rw [hfr]; kernel_rfl
  have hd0 : fr.defers = [] := by rw [hfr]; kernel_rfl
  clear hfr
  go_wp2_with fail
  refine bodyPost_ret (packet_results fr.tmps w14 _ _ _ _ _ _ _ _ _ _ h2 h3 HWF.out) hd0 ?_
  have hB5 : w.heap.size ≤ B5 := by omega
  have hB6 : w.heap.size ≤ B6 := by omega
  have hB13 : w.heap.size ≤ B13 := by omega
  have e9 : 7 + dn + sn + k + P + yn = A2 + P + yn := by rw [HAE.out, HA2.out]
  have hpr := HSH.out.pr
  rw [← e9] at hpr
  exact ⟨a5, c5, a6, c6, a13, c13, rfl, HOH.out.mono hB5, HPH.out.mono hB6, HO14.out.mono hB13, hpr, HSH.out.kp⟩

end Go.Proofs.Ytaokhgpidifedaa
