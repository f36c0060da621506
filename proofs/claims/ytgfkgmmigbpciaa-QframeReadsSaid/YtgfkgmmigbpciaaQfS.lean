/- ack of the reference. -/
import Derived.Test.YtgfkgmmigbpciaaQfR
import Derived.BigQuiet
namespace Go.Proofs.Ytgfkgmmigbpciaa
set_option linter.unusedSimpArgs false
set_option linter.unusedVariables false
open Go.RowKit Go.Deep

theorem ackL_bad {d : Int} {rs : List (Int × Int)} (h : ackOK rs = true) (hd : ¬ d ≤ 4611686018427387903) : varsOK (ackL d rs) = false := by
 cases rs with
 | nil => simp [ackOK] at h
 | cons r rest => simp [ackL, varsOK]; omega

set_option maxRecDepth 100000 in
set_option maxHeartbeats 6400000 in
theorem rack_any (B : Nat) (a : Option Addr) (n c : Nat) (xs : List UInt8) (f : Qf) (w : World) (hd : Sb B w a n c xs) (hf : ∀ w', Below B w w' → Qin w' f) (ht : f.c.t = 2) (hn : n ≤ 10000000) (hn8 : f.n ≤ 1000000) (hB : B ≤ w.heap.size) :
  Calls Try.prog 43 #[.slice a n c, .agg f.cs] w (OneP B a (encO xs f.c) w) := by
 have HD := Lib.hid hd
 have HF := Lib.hid hf
 have HWF := Lib.hid (hf w (Below.refl _ _)).wf
 have HRL := Lib.hid (hf w (Below.refl _ _)).r.1
 have HK0 : Hid (Keeps (fun _ => False) w (w.alloc (.cells f.cs 32 (0, 0)))) := Lib.hid ((Keeps.refl _ w).alloc _)
 have HL1 := Lib.hid (Blk.new w f.cs 32)
 clear hd hf
 have HT := Lib.hid ht
 have HPL := Lib.hid (plan_2 ht)
 clear ht
 unfold Qf.cs at HK0 HL1 ⊢
 have HD1 := Lib.hid (HD.out.same HK0.out)
 go_enter Try.func43, Try.ntmps43
 go_upto_region 1 with fail
 refine wp_named ?_
 intro w1 hw1
 rw [hw1] at HK0 HL1 HD1
 have hs1 : w.heap.size ≤ w1.heap.size := HK0.out.size
 have HFR : Hid (¬ mine B a w.heap.size) := Lib.hid (HD.out.fresh (Nat.le_refl _))
 have HB1 : Hid (Below B w w1) := Lib.hid (Keeps.below (Below.refl B w) HK0.out hB (fun _ h => False.elim h))
 clear hw1
 generalize w.heap.size = fb at *
 have hB1 : B ≤ w1.heap.size := by omega
 have hx8 : IntKind.u64.wrap (f.n : Int) = (f.n : Int) := by rw [IntKind.wrap_u64]; omega
 have q7 : w1.cell? ⟨fb, 7, none⟩ = some (.slice f.ra f.rn f.rc) := HL1.out.cell 7
 by_cases hl1 : 1 ≤ f.rn
 rotate_left
 ·have d1 : decide ((f.rn : Int) < 1) = true := by simp; omega
  have HBAD : Hid (ackOK f.c.rs = false) := Lib.hid (ack_len (by have := HRL.out; omega))
  go_wp2_with fail
  go_returns
  refine ⟨HK0.out.to, ?_⟩
  rw [encO_no (by rw [HT.out]; decide) (by rw [HPL.out, if_neg (by rw [HBAD.out]; simp)])]
  rfl
 have d1 : decide ((f.rn : Int) < 1) = false := by simp; omega
 by_cases hl2 : f.rn ≤ 32
 rotate_left
 ·have d2 : decide ((32 : Int) < (f.rn : Int)) = true := by simp; omega
  have HBAD : Hid (ackOK f.c.rs = false) := Lib.hid (ack_len (by have := HRL.out; omega))
  go_wp2_with fail
  go_returns
  refine ⟨HK0.out.to, ?_⟩
  rw [encO_no (by rw [HT.out]; decide) (by rw [HPL.out, if_neg (by rw [HBAD.out]; simp)])]
  rfl
 have d2 : decide ((32 : Int) < (f.rn : Int)) = false := by simp; omega
 have q6 : w1.cell? ⟨fb, 6, none⟩ = some (.int .u64 f.c.delay) := HL1.out.cell 6
 by_cases hdl : f.c.delay ≤ 4611686018427387903
 rotate_left
 ·have d3 : decide ((4611686018427387903 : Int) < f.c.delay) = true := by simp; omega
  have HBAD : Hid (encO xs f.c = none) := Lib.hid (by
   cases hk : ackOK f.c.rs with
   | false => exact encO_no (by rw [HT.out]; decide) (by rw [HPL.out, if_neg (by rw [hk]; simp)])
   | true =>
    rw [encO_plan (by rw [HT.out]; decide) (l := ackL f.c.delay f.c.rs) (tl := []) (by rw [HPL.out, if_pos hk]), numsO_no (ackL_bad hk hdl)]; rfl)
  go_wp2_with fail
  go_returns
  refine ⟨HK0.out.to, ?_⟩
  rw [HBAD.out]
  rfl
 have d3 : decide ((4611686018427387903 : Int) < f.c.delay) = false := by simp; omega
 have HDL := Lib.hid hdl
 obtain ⟨bb, oo, hra, hbb, hcell⟩ := (HF.out w1 HB1.out).r.get (by omega)
 have HRA := Lib.hid hra
 have h0x : 0 < f.c.rs.length := by have := HRL.out; omega
 obtain ⟨c0, c1⟩ := hcell 0 h0x
 clear hcell
 obtain ⟨L0, hL⟩ : ∃ L, f.c.rs[0].2 = L := ⟨_, rfl⟩
 rw [hL, Nat.zero_mul, Nat.add_zero] at c1
 have HLL0 := Lib.hid hL
 clear hL c0
 have z0 : (0 : Int) < (f.rn : Int) := by omega
 rw [hra] at q7
 by_cases hl0 : L0 ≤ 4611686018427387903
 rotate_left
 ·have d4 : decide ((4611686018427387903 : Int) < L0) = true := by simp; omega
  have HBAD : Hid (ackOK f.c.rs = false) := Lib.hid (ack_bad HWF.out.rs h0x (fun h => hl0 (by rw [← HLL0.out]; exact h.2.1)))
  go_wp2_with fail
  go_returns
  refine ⟨HK0.out.to, ?_⟩
  rw [encO_no (by rw [HT.out]; decide) (by rw [HPL.out, if_neg (by rw [HBAD.out]; simp)])]
  rfl
 have d4 : decide ((4611686018427387903 : Int) < L0) = false := by simp; omega
 have HL0 := Lib.hid hl0
 clear hl0 hdl hra
 go_wp2_with fail
 clear d1 d2 d3 d4 z0 c1 q6 q7
 go_loopg [7] f.rn (fun k vi wr => ∃ i : Nat, vi = .int .i64 i ∧ k + i = f.rn ∧ (∀ k (hk : k < f.c.rs.length), k < i → chkR f.c.rs k hk) ∧ Keeps (fun _ => False) w1 wr)
 case atStart => exact ⟨0, rfl, by omega, fun k hk h => by omega, Keeps.refl _ _⟩
 case round =>
  obtain ⟨i, rfl, hk, hc, hkw⟩ := hrel
  have HI := Lib.hid hk
  have HC := Lib.hid hc
  have HKR := Lib.hid hkw
  clear hk hc hkw
  have HBR : Hid (Below B w wr) := Lib.hid (Keeps.below HB1.out HKR.out hB1 (fun _ h => False.elim h))
  by_cases hin : i < f.rn
  ·have hix : i < f.c.rs.length := by have := HRL.out; omega
   obtain ⟨bb', oo', hra', -, hcell⟩ := (HF.out wr HBR.out).r.get (by omega)
   obtain ⟨rfl, rfl⟩ : bb = bb' ∧ oo = oo' := by rw [HRA.out] at hra'; simpa using hra'
   obtain ⟨c0, c1⟩ := hcell i hix
   have HCE := Lib.hid hcell
   have HWI := Lib.hid (HWF.out.rs _ (List.getElem_mem hix))
   clear hra' hcell
   obtain ⟨F, hF⟩ : ∃ F, f.c.rs[i].1 = F := ⟨_, rfl⟩
   obtain ⟨L, hL⟩ : ∃ L, f.c.rs[i].2 = L := ⟨_, rfl⟩
   rw [hF] at c0
   rw [hL] at c1
   have HFF := Lib.hid hF
   have HLL := Lib.hid hL
   clear hF hL
   have hz0 : (0 : Int) ≤ (i : Int) := by omega
   have hz1 : (i : Int) < (f.rn : Int) := by omega
   by_cases hfl : F ≤ L
   rotate_left
   ·have d1 : decide (L < F) = true := by simp; omega
    have HBAD : Hid (ackOK f.c.rs = false) := Lib.hid (ack_bad HWF.out.rs hix (fun h => hfl (by rw [← HFF.out, ← HLL.out]; exact h.1)))
    go_wp2_with fail
    go_quiet (fail)
    go_wp2_with fail
    go_returns
    refine ⟨(HK0.out.trans HKR.out).to.drewN _, ?_⟩
    rw [encO_no (by rw [HT.out]; decide) (by rw [HPL.out, if_neg (by rw [HBAD.out]; simp)])]
    rfl
   have d1 : decide (L < F) = false := by simp; omega
   obtain ⟨g, rfl⟩ : ∃ g, gk = g + 1 := ⟨gk - 1, by have := HI.out; omega⟩
   by_cases hi0 : i = 0
   ·have hib : decide ((0 : Int) < (i : Int)) = false := by simp [hi0]
    have hibn : decide (0 < i) = false := by simp [hi0]
    have HCN : Hid (∀ k (hk : k < f.c.rs.length), k < i + 1 → chkR f.c.rs k hk) := Lib.hid (fun k hk hlt => by
     have hki : k = i := by omega
     subst hki
     exact ⟨by rw [HFF.out, HLL.out]; exact hfl, by have := HL0.out; have := HLL0.out; subst hi0; omega, .inl hi0⟩)
    clear hi0
    go_wp2_with fail
    go_quiet (fail)
    go_wp2_with fail
    go_roundg g
    case measure => omega
    case rel => exact ⟨i + 1, by go_num, by have := HI.out; omega, HCN.out, HKR.out.drewN _⟩
   ·have hib : decide ((0 : Int) < (i : Int)) = true := by simp; omega
    have hibn : decide (0 < i) = true := by simp; omega
    have hi1 : i - 1 < f.c.rs.length := by omega
    obtain ⟨p0, p1⟩ := HCE.out (i - 1) hi1
    have hpi := (HC.out (i - 1) hi1 (by omega))
    obtain ⟨G, hG⟩ : ∃ G, f.c.rs[i - 1].1 = G := ⟨_, rfl⟩
    rw [hG] at p0
    have HGG := Lib.hid hG
    have hg1 : G ≤ 4611686018427387903 := by rw [← hG]; exact Int.le_trans hpi.1 hpi.2.1
    have hg0 : 0 ≤ G := by rw [← hG]; exact (HWF.out.rs _ (List.getElem_mem hi1)).1.1
    have hL0 : 0 ≤ L := by rw [← HLL.out]; exact HWI.out.2.1
    clear hpi p1 hG
    have hw1 : IntKind.i64.wrap ((i : Int) - 1) = (i : Int) - 1 := by rw [IntKind.wrap_i64]; omega
    have hw2 : (0 : Int) ≤ (i : Int) - 1 := by omega
    have hw3 : ((i : Int) - 1).toNat = i - 1 := by omega
    have hw4 : (i : Int) - 1 < (f.rn : Int) := by omega
    have hw5 : (1 : Int) ≤ (i : Int) := by omega
    by_cases hg2 : 2 ≤ G
    ·have d2 : decide (G < 2) = false := by simp; omega
     have hs2 : IntKind.u64.wrap (G - 2) = G - 2 := by rw [IntKind.wrap_u64]; omega
     by_cases hlg : L ≤ G - 2
     ·have d3 : decide (G - 2 < L) = false := by simp; omega
      have HCN : Hid (∀ k (hk : k < f.c.rs.length), k < i + 1 → chkR f.c.rs k hk) := Lib.hid (fun k hk hlt => by
       by_cases hki : k = i
       ·subst hki
        exact ⟨by rw [HFF.out, HLL.out]; exact hfl, by rw [HLL.out]; omega, .inr ⟨by rw [HGG.out]; exact hg2, by rw [HLL.out, HGG.out]; exact hlg⟩⟩
       ·exact HC.out k hk (by omega))
      go_wp2_with fail
      go_quiet (fail)
      clear hw1 hw2 hw3 hw4 hw5 hs2 d2 d3
      go_wp2_with fail
      go_roundg g
      case measure => omega
      case rel => exact ⟨i + 1, by go_num, by have := HI.out; omega, HCN.out, HKR.out.drewN _⟩
     ·have d3 : decide (G - 2 < L) = true := by simp; omega
      have HBAD : Hid (ackOK f.c.rs = false) := Lib.hid (ack_bad HWF.out.rs hix (fun h => by
       rcases h.2.2 with h | h
       ·exact hi0 h
       ·rw [HLL.out, HGG.out] at h; exact hlg h.2))
      go_wp2_with fail
      go_quiet (fail)
      clear hw1 hw2 hw3 hw4 hw5 hs2 d2 d3
      go_wp2_with fail
      go_returns
      refine ⟨(HK0.out.trans HKR.out).to.drewN _, ?_⟩
      rw [encO_no (by rw [HT.out]; decide) (by rw [HPL.out, if_neg (by rw [HBAD.out]; simp)])]
      rfl
    ·have d2 : decide (G < 2) = true := by simp; omega
     have HBAD : Hid (ackOK f.c.rs = false) := Lib.hid (ack_bad HWF.out.rs hix (fun h => by
      rcases h.2.2 with h | h
      ·exact hi0 h
      ·rw [HGG.out] at h; exact hg2 h.1))
     go_wp2_with fail
     go_quiet (fail)
     clear hw1 hw2 hw3 hw4 hw5 d2
     go_wp2_with fail
     go_returns
     refine ⟨(HK0.out.trans HKR.out).to.drewN _, ?_⟩
     rw [encO_no (by rw [HT.out]; decide) (by rw [HPL.out, if_neg (by rw [HBAD.out]; simp)])]
     rfl
  ·have HALL : Hid (∀ k (hk : k < f.c.rs.length), chkR f.c.rs k hk) := Lib.hid (fun k hk => HC.out k hk (by have := HRL.out; omega))
   have HGOOD : Hid (ackOK f.c.rs = true) := Lib.hid (ack_good (by have := HRL.out; omega) (by have := HRL.out; omega) HALL.out)
   have HE8 : Hid (encO xs f.c = numsO xs (ackL f.c.delay f.c.rs)) := Lib.hid (encO_nums (by rw [HT.out]; decide) (by rw [HPL.out, if_pos HGOOD.out]))
   obtain ⟨bb', oo', hra', -, hcell⟩ := (HF.out wr HBR.out).r.get (by omega)
   obtain ⟨rfl, rfl⟩ : bb = bb' ∧ oo = oo' := by rw [HRA.out] at hra'; simpa using hra'
   obtain ⟨c0, c1⟩ := hcell 0 h0x
   obtain ⟨F0, hF⟩ : ∃ F, f.c.rs[0].1 = F := ⟨_, rfl⟩
   rw [hF, Nat.zero_mul, Nat.add_zero] at c0
   rw [HLL0.out, Nat.zero_mul, Nat.add_zero] at c1
   have k1 : F0 ≤ L0 := by rw [← hF, ← HLL0.out]; exact (HALL.out 0 h0x).1
   have k2 : L0 ≤ 4611686018427387903 := HL0.out
   have k0 : 0 ≤ F0 := by rw [← hF]; exact (HWF.out.rs _ (List.getElem_mem h0x)).1.1
   have HN0 : Hid (ackN f.c.delay f.c.rs 0 = [2, L0, f.c.delay, (f.rn : Int) - 1, L0 - F0]) := Lib.hid (by rw [ackN_zero _ _ h0x, hF, HLL0.out, HRL.out])
   have hdl0 := HWF.out.delay
   have hdl1 := HDL.out
   have HIN0 : Hid (∀ v ∈ ackN f.c.delay f.c.rs 0, inU v) := Lib.hid (by
    rw [HN0.out]
    intro v hv
    simp only [List.mem_cons, List.not_mem_nil, or_false] at hv
    rcases hv with rfl | rfl | rfl | rfl | rfl
    ·exact ⟨by omega, by omega⟩
    ·exact ⟨by omega, by omega⟩
    ·exact hdl0
    ·exact ⟨by omega, by omega⟩
    ·exact ⟨by omega, by omega⟩)
   have HV0 : Hid (varsOK (ackN f.c.delay f.c.rs 0) = true) := Lib.hid (by rw [HN0.out]; simp [varsOK]; omega)
   clear hF hra' hcell hdl0 hdl1
   have HL5 := Lib.hid (HKR.out.blk HL1.out (fun h => h))
   have q6 : wr.cell? ⟨fb, 6, none⟩ = some (.int .u64 f.c.delay) := HL5.out.cell 6
   have hil : ¬ i < f.rn := hin
   clear hin
   go_wp2_with fail
   have e1 : IntKind.i64.wrap ((f.rn : Int) - 1) = (f.rn : Int) - 1 := by rw [IntKind.wrap_i64]; omega
   have e2 : IntKind.u64.wrap ((f.rn : Int) - 1) = (f.rn : Int) - 1 := by rw [IntKind.wrap_u64]; omega
   have e3 : IntKind.u64.wrap (L0 - F0) = L0 - F0 := by rw [IntKind.wrap_u64]; omega
   have e4 : (0 : Int) < (f.rn : Int) := by omega
   have e5 : 0 < f.rn := by omega
   have HKd : Hid (Keeps (fun _ => False) w1 wr.drew) := Lib.hid HKR.out.drew
   have HKd0 : Hid (Keeps (fun _ => False) wr wr.drew) := Lib.hid (Keeps.refl _ _).drew
   refine wp_region_held (S := fun w' : World => w'.cell? ⟨bb, oo, none⟩ = some (.int .u64 F0) ∧ w'.cell? ⟨bb, oo + 1, none⟩ = some (.int .u64 L0) ∧ w'.cell? ⟨fb, 6, none⟩ = some (.int .u64 f.c.delay)) (by kernel_rfl) ?_
   change wpAnyH _ _ _ _ _ _ _ _ (World.drew _)
   have hS : (fun w' : World => w'.cell? ⟨bb, oo, none⟩ = some (.int .u64 F0) ∧ w'.cell? ⟨bb, oo + 1, none⟩ = some (.int .u64 L0) ∧ w'.cell? ⟨fb, 6, none⟩ = some (.int .u64 f.c.delay)) wr.drew := ⟨c0, c1, q6⟩
   refine tH (i := 0) (v := ?_) rfl ?_ hS ?_
   rotate_left
   ·intro wz ⟨_, _, _⟩; go_simp; try with_reducible rfl
   refine tH (i := 1) (v := ?_) rfl ?_ hS ?_
   rotate_left
   ·intro wz ⟨_, _, _⟩; go_simp; try with_reducible rfl
   refine tH (i := 2) (v := ?_) rfl ?_ hS ?_
   rotate_left
   ·intro wz ⟨_, _, _⟩; go_simp; try with_reducible rfl
   refine tH (i := 3) (v := ?_) rfl ?_ hS ?_
   rotate_left
   ·intro wz ⟨_, _, _⟩; go_simp; try with_reducible rfl
   refine tH (i := 4) (v := ?_) rfl ?_ hS ?_
   rotate_left
   ·intro wz ⟨_, _, _⟩; go_simp; try with_reducible rfl
   refine tH (i := 5) (v := ?_) rfl ?_ hS ?_
   rotate_left
   ·intro wz ⟨_, _, _⟩; go_simp; try with_reducible rfl
   refine tH (i := 6) (v := ?_) rfl ?_ hS ?_
   rotate_left
   ·intro wz ⟨_, _, _⟩; go_simp; try with_reducible rfl
   refine tH (i := 7) (v := ?_) rfl ?_ hS ?_
   rotate_left
   ·intro wz ⟨_, _, _⟩; go_simp; try with_reducible rfl
   refine tH (i := 8) (v := ?_) rfl ?_ hS ?_
   rotate_left
   ·intro wz ⟨_, _, _⟩; go_simp; try with_reducible rfl
   refine tH (i := 9) (v := ?_) rfl ?_ hS ?_
   rotate_left
   ·intro wz ⟨_, _, _⟩; go_simp; try with_reducible rfl
   refine tH (i := 10) (v := ?_) rfl ?_ hS ?_
   rotate_left
   ·intro wz ⟨_, _, _⟩; go_simp; try with_reducible rfl
   refine tH (i := 11) (v := ?_) rfl ?_ hS ?_
   rotate_left
   ·intro wz ⟨_, _, _⟩; go_simp; try with_reducible rfl
   refine tH (i := 12) (v := ?_) rfl ?_ hS ?_
   rotate_left
   ·intro wz ⟨_, _, _⟩; go_simp; try with_reducible rfl
   refine tH (i := 13) (v := ?_) rfl ?_ hS ?_
   rotate_left
   ·intro wz ⟨_, _, _⟩; go_simp; try with_reducible rfl
   refine tH (i := 14) (v := ?_) rfl ?_ hS ?_
   rotate_left
   ·intro wz ⟨_, _, _⟩; go_simp; try with_reducible rfl
   refine tH (i := 15) (v := ?_) rfl ?_ hS ?_
   rotate_left
   ·intro wz ⟨_, _, _⟩; go_simp; try with_reducible rfl
   refine tH (i := 16) (v := ?_) rfl ?_ hS ?_
   rotate_left
   ·intro wz ⟨_, _, _⟩; go_simp; try with_reducible rfl
   refine tH (i := 17) (v := ?_) rfl ?_ hS ?_
   rotate_left
   ·intro wz ⟨_, _, _⟩; go_simp; try with_reducible rfl
   refine tH (i := 18) (v := ?_) rfl ?_ hS ?_
   rotate_left
   ·intro wz ⟨_, _, _⟩; go_simp; try with_reducible rfl
   clear e1 e2 e3 e4 e5
   have HKa : Hid (Keeps (fun _ => False) w1 (wr.drew.alloc (.cells #[.int .u64 2, .int .u64 L0, .int .u64 f.c.delay, .int .u64 ((f.rn : Int) - 1), .int .u64 (L0 - F0)] 29 (0, 0)))) := Lib.hid (HKd.out.alloc _)
   have hSa : (fun w' : World => w'.cell? ⟨bb, oo, none⟩ = some (.int .u64 F0) ∧ w'.cell? ⟨bb, oo + 1, none⟩ = some (.int .u64 L0) ∧ w'.cell? ⟨fb, 6, none⟩ = some (.int .u64 f.c.delay)) (wr.drew.alloc (.cells #[.int .u64 2, .int .u64 L0, .int .u64 f.c.delay, .int .u64 ((f.rn : Int) - 1), .int .u64 (L0 - F0)] 29 (0, 0))) := by
    have hk : Keeps (fun _ => False) wr (wr.drew.alloc (.cells #[.int .u64 2, .int .u64 L0, .int .u64 f.c.delay, .int .u64 ((f.rn : Int) - 1), .int .u64 (L0 - F0)] 29 (0, 0))) := HKd0.out.alloc _
    have hbw : bb < wr.heap.size := Nat.lt_of_lt_of_le hbb HKR.out.size
    exact ⟨by rw [← c0]; exact World.cell?_of_block (hk.block bb hbw (fun h => h)), by rw [← c1]; exact World.cell?_of_block (hk.block bb hbw (fun h => h)), by rw [← q6]; exact World.cell?_of_block (hk.block fb HL5.out.lt (fun h => h))⟩
   refine held_do (i := 19) (.slice (some ⟨wr.heap.size, 0, none⟩) 5 5) (wr.drew.alloc (.cells #[.int .u64 2, .int .u64 L0, .int .u64 f.c.delay, .int .u64 ((f.rn : Int) - 1), .int .u64 (L0 - F0)] 29 (0, 0))) rfl (by kernel_rfl) (by kernel_rfl) ?_ hSa ?_
   ·go_simp; try with_reducible rfl
   clear hS
   have hS := hSa
   refine tH (i := 20) (v := ?_) rfl ?_ hS ?_
   rotate_left
   ·intro wz ⟨_, _, _⟩; go_simp; try with_reducible rfl
   refine wpAnyH_done (by kernel_rfl) ?_ _
   clear hS hSa c0 c1 q6
   have HU0 : Hid (Uo w1.heap.size (wr.drew.alloc (.cells #[.int .u64 2, .int .u64 L0, .int .u64 f.c.delay, .int .u64 ((f.rn : Int) - 1), .int .u64 (L0 - F0)] 29 (0, 0))) (some ⟨wr.heap.size, 0, none⟩) 5 5 (ackN f.c.delay f.c.rs 0)) := Lib.hid (by
    rw [HN0.out]
    exact Uo.new (w := wr.drew) (L := w1.heap.size) rfl rfl (by omega) HKd.out.size)
   refine then_namedW fun b9 hb9 w2 hw2 => ?_
   subst hb9
   rw [hw2] at HU0 HKa
   clear hw2 HKd HKd0
   generalize wr.heap.size = lb at *
   go_wp2_with fail
   go_loopg [8, 9] (f.rn - 1) (fun k vl vi wl => ∃ (i : Nat) (la : Option Addr) (ln lc : Nat), vi = .int .i64 i ∧ vl = .slice la ln lc ∧ 1 ≤ i ∧ k + i = f.rn ∧ Uo w1.heap.size wl la ln lc (ackN f.c.delay f.c.rs (i - 1)) ∧ ln + 2 = 5 + 2 * i ∧ Keeps (fun _ => False) w1 wl ∧ varsOK (ackN f.c.delay f.c.rs (i - 1)) = true ∧ ∀ v ∈ ackN f.c.delay f.c.rs (i - 1), inU v)
   case atStart => exact ⟨1, some ⟨lb, 0, none⟩, 5, 5, rfl, rfl, by omega, by omega, HU0.out, by omega, HKa.out, HV0.out, HIN0.out⟩
   case round =>
    obtain ⟨i, la, ln, lc, rfl, rfl, hi1, hk, hu, hln, hkw, hv, hin⟩ := hrel
    have HI := Lib.hid hk
    have HU := Lib.hid hu
    have HKL := Lib.hid hkw
    have HVL := Lib.hid hv
    have HIL := Lib.hid hin
    have HLN := Lib.hid hln
    clear hk hu hkw hv hin hln
    have HBL : Hid (Below B w wr) := Lib.hid (Keeps.below HB1.out HKL.out hB1 (fun _ h => False.elim h))
    by_cases hilt : i < f.rn
    ·have hix : i < f.c.rs.length := by have := HRL.out; omega
     have hi1x : i - 1 < f.c.rs.length := by omega
     obtain ⟨bb', oo', hra', -, hcell⟩ := (HF.out wr HBL.out).r.get (by omega)
     obtain ⟨rfl, rfl⟩ : bb = bb' ∧ oo = oo' := by rw [HRA.out] at hra'; simpa using hra'
     obtain ⟨c0, c1⟩ := hcell i hix
     obtain ⟨p0, -⟩ := hcell (i - 1) hi1x
     have hgp := gaps_ok HWF.out.rs HALL.out (i := i - 1) (by omega)
     have hst := ackN_step f.c.delay f.c.rs (i - 1) (by omega)
     simp only [Nat.sub_add_cancel hi1] at hgp hst
     clear hra' hcell
     obtain ⟨F, hF⟩ : ∃ F, f.c.rs[i].1 = F := ⟨_, rfl⟩
     obtain ⟨L, hL⟩ : ∃ L, f.c.rs[i].2 = L := ⟨_, rfl⟩
     obtain ⟨G, hG⟩ : ∃ G, f.c.rs[i - 1].1 = G := ⟨_, rfl⟩
     rw [hF] at c0
     rw [hL] at c1
     rw [hG] at p0
     rw [hF, hL, hG] at hgp hst
     obtain ⟨hv2, g1, g2, g3, g4, g5, g6⟩ := hgp
     have HST := Lib.hid hst
     have HV2 := Lib.hid hv2
     clear hst hv2 hF hL hG
     have hz0 : (0 : Int) ≤ (i : Int) := by omega
     have hz1 : (i : Int) < (f.rn : Int) := by omega
     have hrnc : f.rn ≤ f.rc := (HF.out wr HBL.out).r.2.le
     go_wp2_with fail
     have hw1 : IntKind.i64.wrap ((i : Int) - 1) = (i : Int) - 1 := by rw [IntKind.wrap_i64]; omega
     have hw2 : (0 : Int) ≤ (i : Int) - 1 := by omega
     have hw3 : ((i : Int) - 1).toNat = i - 1 := by omega
     have hw4 : (i : Int) - 1 < (f.rn : Int) := by omega
     have hw5 : (1 : Int) ≤ (i : Int) := by omega
     have hs1 : IntKind.u64.wrap (G - L) = G - L := by rw [IntKind.wrap_u64]; omega
     have hs2 : IntKind.u64.wrap (G - L - 2) = G - L - 2 := by rw [IntKind.wrap_u64]; omega
     have hs3 : IntKind.u64.wrap (L - F) = L - F := by rw [IntKind.wrap_u64]; omega
     have HKd : Hid (Keeps (fun _ => False) wr wr.drew) := Lib.hid (Keeps.refl _ _).drew
     refine wp_region_held (S := fun w' : World => w'.cell? ⟨bb, oo + (i - 1) * 2, none⟩ = some (.int .u64 G) ∧ w'.cell? ⟨bb, oo + i * 2 + 1, none⟩ = some (.int .u64 L) ∧ w'.cell? ⟨bb, oo + i * 2, none⟩ = some (.int .u64 F)) (by kernel_rfl) ?_
     change wpAnyH _ _ _ _ _ _ _ _ (World.drew _)
     have hS : (fun w' : World => w'.cell? ⟨bb, oo + (i - 1) * 2, none⟩ = some (.int .u64 G) ∧ w'.cell? ⟨bb, oo + i * 2 + 1, none⟩ = some (.int .u64 L) ∧ w'.cell? ⟨bb, oo + i * 2, none⟩ = some (.int .u64 F)) wr.drew := ⟨p0, c1, c0⟩
     refine tH (i := 0) (v := ?_) rfl ?_ hS ?_
     rotate_left
     ·intro wz ⟨_, _, _⟩; go_simp; try with_reducible rfl
     refine tH (i := 1) (v := ?_) rfl ?_ hS ?_
     rotate_left
     ·intro wz ⟨_, _, _⟩; go_simp; try with_reducible rfl
     refine tH (i := 2) (v := ?_) rfl ?_ hS ?_
     rotate_left
     ·intro wz ⟨_, _, _⟩; go_simp; try with_reducible rfl
     refine tH (i := 3) (v := ?_) rfl ?_ hS ?_
     rotate_left
     ·intro wz ⟨_, _, _⟩; go_simp; try with_reducible rfl
     refine tH (i := 4) (v := ?_) rfl ?_ hS ?_
     rotate_left
     ·intro wz ⟨_, _, _⟩; go_simp; try with_reducible rfl
     refine tH (i := 5) (v := ?_) rfl ?_ hS ?_
     rotate_left
     ·intro wz ⟨_, _, _⟩; go_simp; try with_reducible rfl
     refine tH (i := 6) (v := ?_) rfl ?_ hS ?_
     rotate_left
     ·intro wz ⟨_, _, _⟩; go_simp; try with_reducible rfl
     refine tH (i := 7) (v := ?_) rfl ?_ hS ?_
     rotate_left
     ·intro wz ⟨_, _, _⟩; go_simp; try with_reducible rfl
     refine tH (i := 8) (v := ?_) rfl ?_ hS ?_
     rotate_left
     ·intro wz ⟨_, _, _⟩; go_simp; try with_reducible rfl
     refine tH (i := 9) (v := ?_) rfl ?_ hS ?_
     rotate_left
     ·intro wz ⟨_, _, _⟩; go_simp; try with_reducible rfl
     refine tH (i := 10) (v := ?_) rfl ?_ hS ?_
     rotate_left
     ·intro wz ⟨_, _, _⟩; go_simp; try with_reducible rfl
     refine tH (i := 11) (v := ?_) rfl ?_ hS ?_
     rotate_left
     ·intro wz ⟨_, _, _⟩; go_simp; try with_reducible rfl
     refine tH (i := 12) (v := ?_) rfl ?_ hS ?_
     rotate_left
     ·intro wz ⟨_, _, _⟩; go_simp; try with_reducible rfl
     refine tH (i := 13) (v := ?_) rfl ?_ hS ?_
     rotate_left
     ·intro wz ⟨_, _, _⟩; go_simp; try with_reducible rfl
     refine tH (i := 14) (v := ?_) rfl ?_ hS ?_
     rotate_left
     ·intro wz ⟨_, _, _⟩; go_simp; try with_reducible rfl
     refine tH (i := 15) (v := ?_) rfl ?_ hS ?_
     rotate_left
     ·intro wz ⟨_, _, _⟩; go_simp; try with_reducible rfl
     refine tH (i := 16) (v := ?_) rfl ?_ hS ?_
     rotate_left
     ·intro wz ⟨_, _, _⟩; go_simp; try with_reducible rfl
     refine tH (i := 17) (v := ?_) rfl ?_ hS ?_
     rotate_left
     ·intro wz ⟨_, _, _⟩; go_simp; try with_reducible rfl
     refine tH (i := 18) (v := ?_) rfl ?_ hS ?_
     rotate_left
     ·intro wz ⟨_, _, _⟩; go_simp; try with_reducible rfl
     refine tH (i := 19) (v := ?_) rfl ?_ hS ?_
     rotate_left
     ·intro wz ⟨_, _, _⟩; go_simp; try with_reducible rfl
     refine tH (i := 20) (v := ?_) rfl ?_ hS ?_
     rotate_left
     ·intro wz ⟨_, _, _⟩; go_simp; try with_reducible rfl
     refine tH (i := 21) (v := ?_) rfl ?_ hS ?_
     rotate_left
     ·intro wz ⟨_, _, _⟩; go_simp; try with_reducible rfl
     refine tH (i := 22) (v := ?_) rfl ?_ hS ?_
     rotate_left
     ·intro wz ⟨_, _, _⟩; go_simp; try with_reducible rfl
     refine tH (i := 23) (v := ?_) rfl ?_ hS ?_
     rotate_left
     ·intro wz ⟨_, _, _⟩; go_simp; try with_reducible rfl
     refine tH (i := 24) (v := ?_) rfl ?_ hS ?_
     rotate_left
     ·intro wz ⟨_, _, _⟩; go_simp; try with_reducible rfl
     clear hw1 hw2 hw3 hw4 hw5 hs2 hs3
     have hka : Keeps (fun _ => False) wr (wr.drew.alloc (.cells #[.int .u64 (G - L - 2), .int .u64 (L - F)] 29 (0, 0))) := HKd.out.alloc _
     have hbw : bb < wr.heap.size := Nat.lt_of_lt_of_le hbb HKL.out.size
     refine held_do (i := 25) (.slice (some ⟨wr.heap.size, 0, none⟩) 2 2) (wr.drew.alloc (.cells #[.int .u64 (G - L - 2), .int .u64 (L - F)] 29 (0, 0))) rfl (by kernel_rfl) (by kernel_rfl) ?_ ⟨by rw [← p0]; exact World.cell?_of_block (hka.block bb hbw (fun h => h)), by rw [← c1]; exact World.cell?_of_block (hka.block bb hbw (fun h => h)), by rw [← c0]; exact World.cell?_of_block (hka.block bb hbw (fun h => h))⟩ ?_
     ·go_simp; try with_reducible rfl
     refine held_uo (i := 26) rfl (by kernel_rfl) (by kernel_rfl) (.tmp 103) (.tmp 128) rfl w1.heap.size la ln lc (ackN f.c.delay f.c.rs (i - 1)) (by kernel_rfl) (HU.out.keep hka (fun _ _ h => h)) _ 2 2 [G - L - 2, L - F] (by kernel_rfl) (Uv.two' wr.drew _ (G - L - 2) (L - F) ⟨by omega, by omega⟩ ⟨by omega, by omega⟩) (by omega) (by have := HLN.out; omega) (Nat.le_trans HKL.out.size hka.size) ?_
     intro la2 lc2 w3 hu3 hk3 hn3
     have hk13 : Keeps (fun _ => False) w1 w3 := Keeps.trans2 (HKL.out.trans hka) hk3 (fun i hi h => by have := h.1; omega)
     have hkl3 : ∀ o v, wr.cell? ⟨bb, o, none⟩ = some v → w3.cell? ⟨bb, o, none⟩ = some v := fun o v h => by
      rw [← h]
      refine World.cell?_of_block ?_
      have e1 := hk3.block bb (Nat.lt_of_lt_of_le hbw hka.size) (fun h => by have := h.1; omega)
      rw [e1]
      exact hka.block bb hbw (fun h => h)
     have hS3 : (fun w' : World => w'.cell? ⟨bb, oo + (i - 1) * 2, none⟩ = some (.int .u64 G) ∧ w'.cell? ⟨bb, oo + i * 2 + 1, none⟩ = some (.int .u64 L) ∧ w'.cell? ⟨bb, oo + i * 2, none⟩ = some (.int .u64 F)) w3 := ⟨hkl3 _ _ p0, hkl3 _ _ c1, hkl3 _ _ c0⟩
     refine ⟨hS3, ?_⟩
     have HU3 : Hid (Uo w1.heap.size w3 la2 (ln + 2) lc2 (ackN f.c.delay f.c.rs i)) := Lib.hid (by rw [HST.out]; exact hu3)
     have HK13 := Lib.hid hk13
     clear hS hu3 hk3 hn3 hk13 hkl3
     have hS := hS3
     clear hS3
     refine tH (i := 27) (v := ?_) rfl ?_ hS ?_
     rotate_left
     ·intro wz ⟨_, _, _⟩; go_simp; try with_reducible rfl
     refine wpAnyH_done (by kernel_rfl) ?_ _
     clear hS p0 c0 c1
     have HVN : Hid (varsOK (ackN f.c.delay f.c.rs i) = true) := Lib.hid (by rw [HST.out, varsOK_append, HVL.out, HV2.out]; rfl)
     have HINN : Hid (∀ v ∈ ackN f.c.delay f.c.rs i, inU v) := Lib.hid (by
      rw [HST.out]
      intro v hv
      rcases List.mem_append.1 hv with h | h
      ·exact HIL.out v h
      ·simp only [List.mem_cons, List.not_mem_nil, or_false] at h
       rcases h with rfl | rfl
       ·exact ⟨by omega, by omega⟩
       ·exact ⟨by omega, by omega⟩)
     clear g1 g2 g3 g4 g5 g6
     go_wp2_with fail
     obtain ⟨g, rfl⟩ : ∃ g, gk = g + 1 := ⟨gk - 1, by have := HI.out; omega⟩
     go_roundg g
     case measure => omega
     case rel => exact ⟨i + 1, la2, ln + 2, lc2, by go_num, rfl, by omega, by have := HI.out; omega, HU3.out, by have := HLN.out; omega, HK13.out, HVN.out, HINN.out⟩
    ·have hi2 : i = f.rn := by have := HI.out; omega
     have hnlt : decide ((i : Int) < (f.rn : Int)) = false := by simp; omega
     have HX : Hid (ackN f.c.delay f.c.rs (i - 1) = ackL f.c.delay f.c.rs) := Lib.hid (ackN_all _ _ _ (by have := HRL.out; omega))
     have HV : Hid (varsOK (ackL f.c.delay f.c.rs) = true) := Lib.hid (by rw [← HX.out]; exact HVL.out)
     have HUL : Hid (Uo w1.heap.size wr la ln lc (ackL f.c.delay f.c.rs)) := Lib.hid (by rw [← HX.out]; exact HU.out)
     have HINL : Hid (∀ v ∈ ackL f.c.delay f.c.rs, inU v) := Lib.hid (by rw [← HX.out]; exact HIL.out)
     go_wp2_with fail
     refine (put_any B a n c xs la ln lc (ackL f.c.delay f.c.rs) wr (HD1.out.same HKL.out) (HUL.out.uv HINL.out) (by have := HUL.out.1; have := HLN.out; omega) HV.out (fun b hb h => by have h1 := (HUL.out.ge b hb).1; have h2 := HD1.out.2 b h.2; omega) (by omega) (by have := HLN.out; omega) (Nat.le_trans hB1 HKL.out.size)).mono ?_
     rintro e w9 ⟨hk9, a9, n9, c9, rfl, hs9, hn9⟩
     have HK9 := Lib.hid ((HK0.out.trans HKL.out).to.trans hk9)
     have HN9 := Lib.hid (near_to hn9 (HK0.out.trans HKL.out).size)
     have HS9 := Lib.hid hs9
     clear hk9 hn9 hs9
     go_wp2_with fail
     go_returns
     refine ⟨HK9.out, ?_⟩
     rw [HE8.out, numsO_yes HV.out]
     exact ⟨_, _, _, rfl, HS9.out, HN9.out⟩


end Go.Proofs.Ytgfkgmmigbpciaa
