/- One of the reference: 24, 18, 22, 28. -/
import Derived.Test.YtgfkgmmigbpciaaQfP
namespace Go.Proofs.Ytgfkgmmigbpciaa
set_option linter.unusedSimpArgs false
set_option linter.unusedVariables false
open Go.RowKit Go.Deep

theorem then_namedW {K : Act → World → Prop} {Q' : Exit → Act → World → Prop} {a : Act} {w : World} (h : ∀ b : Act, b = a → ∀ v : World, w = v → Exit.then K Q' .normal b v) : Exit.then K Q' .normal a w := h a rfl w rfl

set_option maxRecDepth 100000 in
set_option maxHeartbeats 3200000 in
theorem one_24 (B : Nat) (a : Option Addr) (n c : Nat) (xs : List UInt8) (f : Qf) (w : World) (hd : Sb B w a n c xs) (hf : ∀ w', Below B w w' → Qin w' f) (ht : f.c.t = 24) (hn : n ≤ 10000000) (hn8 : f.n ≤ 1000000) (hB : B ≤ w.heap.size) :
  Calls Try.prog 25 #[.slice a n c, .agg f.cs] w (OneP B a (encO xs f.c) w) := by
 have HD := Lib.hid hd
 have HF := Lib.hid hf
 have HWF := Lib.hid (hf w (Below.refl _ _)).wf
 have HXL := Lib.hid (hf w (Below.refl _ _)).b.1
 have HK0 : Hid (Keeps (fun _ => False) w (w.alloc (.cells f.cs 32 (0, 0)))) := Lib.hid ((Keeps.refl _ w).alloc _)
 have HL1 := Lib.hid (Blk.new w f.cs 32)
 clear hd hf
 have HT := Lib.hid ht
 have e0 : (f.c.t == 0) = false := by simp [ht]
 have e1 : (f.c.t == 1) = false := by simp [ht]
 have e30 : (f.c.t == 30) = false := by simp [ht]
 have e2 : (f.c.t == 2) = false := by simp [ht]
 have e4 : (f.c.t == 4) = false := by simp [ht]
 have e5 : (f.c.t == 5) = false := by simp [ht]
 have e6 : (f.c.t == 6) = false := by simp [ht]
 have e7 : (f.c.t == 7) = false := by simp [ht]
 have e8 : (f.c.t == 8) = false := by simp [ht]
 have e16 : (f.c.t == 16) = false := by simp [ht]
 have e20 : (f.c.t == 20) = false := by simp [ht]
 have e17 : (f.c.t == 17) = false := by simp [ht]
 have e21 : (f.c.t == 21) = false := by simp [ht]
 have e18 : (f.c.t == 18) = false := by simp [ht]
 have e22 : (f.c.t == 22) = false := by simp [ht]
 have e24 : (f.c.t == 24) = true := by simp [ht]
 have HPL := Lib.hid (plan_24 ht)
 clear ht
 unfold Qf.cs at HK0 HL1 ⊢
 have HD1 := Lib.hid (HD.out.same HK0.out)
 go_enter Try.func25, Try.ntmps25
 go_upto_region 1 with fail
 refine wp_named ?_
 intro w1 hw1
 rw [hw1] at HK0 HL1 HD1
 have hs1 : w.heap.size ≤ w1.heap.size := HK0.out.size
 have HFR : Hid (¬ mine B a w.heap.size) := Lib.hid (HD.out.fresh (Nat.le_refl _))
 have HB1 : Hid (Below B w w1) := Lib.hid (Keeps.below (Below.refl B w) HK0.out hB (fun _ h => False.elim h))
 clear hw1
 generalize w.heap.size = fb at *
 have hB1 : B ≤ w1.heap.size := by omega
 have hx8 : IntKind.u64.wrap (f.n : Int) = (f.n : Int) := by rw [IntKind.wrap_u64]; omega
 have q8 : w1.cell? ⟨fb, 8, none⟩ = some (.slice f.a f.n f.cap) := HL1.out.cell 8
 have q0 : w1.cell? ⟨fb, 0, none⟩ = some (.int .u64 f.c.t) := HL1.out.cell 0
 have q1 : w1.cell? ⟨fb, 1, none⟩ = some (.int .u64 f.c.id) := HL1.out.cell 1
 have q4 : w1.cell? ⟨fb, 4, none⟩ = some (.int .u64 f.c.mx) := HL1.out.cell 4
 by_cases g1 : 17 ≤ f.n
 ·have d1 : decide ((f.n : Int) < 17) = false := by simp; omega
  by_cases g2 : f.n ≤ 36
  ·have d2 : decide ((36 : Int) < (f.n : Int)) = false := by simp; omega
   by_cases g3 : f.c.mx ≤ f.c.id
   ·have d3 : decide (f.c.id < f.c.mx) = false := by simp; omega
    have HM : Hid (f.c.mx ≤ f.c.id ∧ 16 < f.c.xs.length ∧ f.c.xs.length ≤ 36) := Lib.hid ⟨g3, by rw [← HXL.out]; omega, by rw [← HXL.out]; exact g2⟩
    by_cases g4 : f.c.id ≤ 4611686018427387903
    ·have d4 : decide ((4611686018427387903 : Int) < f.c.id) = false := by simp; omega
     have HV : Hid (varsOK [f.c.t, f.c.id, f.c.mx] = true) := Lib.hid (by simp [varsOK, HT.out]; omega)
     have HE8 : Hid (encO xs f.c = some (xs ++ varsE [f.c.t, f.c.id, f.c.mx] ++ [byt ((f.n : Int) - 16)] ++ f.c.xs)) := Lib.hid (by
      rw [encO_plan (by rw [HT.out]; decide) (l := [f.c.t, f.c.id, f.c.mx]) (tl := byt ((f.n : Int) - 16) :: f.c.xs) (by rw [HPL.out, if_pos HM.out, HT.out, HXL.out]), numsO_yes HV.out, thenO_some]; simp)
     clear g3 g4
     go_wp2_with fail
     clear q0 q1 q4 q8 d1 d2 d3 d4
     refine (put_new B a n c xs #[.int .u64 f.c.t, .int .u64 f.c.id, .int .u64 f.c.mx] 3 [f.c.t, f.c.id, f.c.mx] w1 HD1.out (Uv.three w1 29 f.c.t f.c.id f.c.mx HWF.out.t HWF.out.id HWF.out.mx) (by simp) HV.out (by omega) (by omega) hB1).mono ?_
     rintro e w2 ⟨hk2, a2, n2, c2, rfl, hs2, hn2⟩
     have HK2 := Lib.hid (HK0.out.to.trans hk2)
     have HN2 := Lib.hid (near_to hn2 HK0.out.size)
     have HS2 := Lib.hid hs2
     have HL2 := Lib.hid (hk2.blk HL1.out HFR.out)
     have HB2 : Hid (Below B w w2) := Lib.hid (Keeps.below HB1.out hk2 hB1 (fun k h => h.1))
     have hB2 : B ≤ w2.heap.size := Nat.le_trans hB1 hk2.size
     have hln2 : n2 ≤ n + 24 := by
      have h1 := hs2.1.1
      have h2 := HD1.out.1.1
      have h3 := numsO_len (numsO_yes (xs := xs) HV.out)
      simp only [List.length_cons, List.length_nil] at h3
      omega
     have HFR2 : Hid (¬ mine B a2 fb) := Lib.hid (fun h => by
      rcases hn2 fb h.2 with rfl | ⟨h1, _⟩
      ·exact HFR.out h
      ·have := HL1.out.lt; omega)
     have HFR4 : ∀ {a3 : Option Addr}, Near B w2.drew a2 a3 → ¬ mine B a3 fb := fun hn h => by
      rcases hn fb h.2 with rfl | ⟨h1, _⟩
      ·exact HFR2.out h
      ·have := HL2.out.lt
       have : w2.drew.heap.size = w2.heap.size := rfl
       omega
     clear hk2 hn2 hs2
     go_wp2_with fail
     have hsub : IntKind.u64.wrap ((f.n : Int) - 16) = (f.n : Int) - 16 := by rw [IntKind.wrap_u64]; omega
     have hcv : IntKind.u8.wrap ((f.n : Int) - 16) = ((byt ((f.n : Int) - 16)).toNat : Int) := by rw [IntKind.wrap_u8, byt_val]
     have HKd : Hid (Keeps (fun _ => False) w2 w2.drew) := Lib.hid (Keeps.refl _ _).drew
     have HDd := Lib.hid (HS2.out.same HKd.out)
     have HLd := Lib.hid (HKd.out.blk HL2.out (fun h => h))
     have hBd : B ≤ w2.drew.heap.size := hB2
     refine wp_region_held (S := fun w' : World => w'.cell? ⟨fb, 8, none⟩ = some (.slice f.a f.n f.cap)) (by kernel_rfl) ?_
     change wpAnyH _ _ _ _ _ _ _ _ (World.drew _)
     have hS : (fun w' : World => w'.cell? ⟨fb, 8, none⟩ = some (.slice f.a f.n f.cap)) w2.drew := (HLd.out.cell 8)
     refine tH (i := 0) (v := ?_) rfl ?_ hS ?_
     rotate_left
     ·intro wz _; go_simp; try with_reducible rfl
     refine tH (i := 1) (v := ?_) rfl ?_ hS ?_
     rotate_left
     ·intro wz _; go_simp; try with_reducible rfl
     refine tH (i := 2) (v := ?_) rfl ?_ hS ?_
     rotate_left
     ·intro wz _; go_simp; try with_reducible rfl
     refine tH (i := 3) (v := ?_) rfl ?_ hS ?_
     rotate_left
     ·intro wz _; go_simp; try with_reducible rfl
     refine tH (i := 6) (v := ?_) rfl ?_ hS ?_
     rotate_left
     ·intro wz _; go_simp; try with_reducible rfl
     refine tH (i := 7) (v := ?_) rfl ?_ hS ?_
     rotate_left
     ·intro wz _; go_simp; try with_reducible rfl
     have hka : Keeps (fun _ => False) w2.drew (w2.drew.alloc (.cells #[.int .u8 ((byt ((f.n : Int) - 16)).toNat : Int)] 5 (0, 0))) := (Keeps.refl _ _).alloc _
     have hBa : B ≤ (w2.drew.alloc (.cells #[.int .u8 ((byt ((f.n : Int) - 16)).toNat : Int)] 5 (0, 0))).heap.size := Nat.le_trans hBd hka.size
     have hla := hka.blk HLd.out (fun h => h)
     refine held_do (i := 4) (.slice (some ⟨w2.heap.size, 0, none⟩) 1 1) (w2.drew.alloc (.cells #[.int .u8 ((byt ((f.n : Int) - 16)).toNat : Int)] 5 (0, 0))) rfl (by kernel_rfl) (by kernel_rfl) ?_ (hla.cell 8) ?_
     ·go_simp; try with_reducible rfl
     refine held_bd (i := 5) rfl (by kernel_rfl) (by kernel_rfl) (.tmp 202) (.tmp 206) rfl B a2 n2 c2 (xs ++ varsE [f.c.t, f.c.id, f.c.mx]) (by kernel_rfl) (HDd.out.same hka) _ 1 1 [byt ((f.n : Int) - 16)] (by kernel_rfl) (By.new w2.drew [byt ((f.n : Int) - 16)] _ _ (by simp) rfl) (by omega) hBa ?_
     intro a3 c3 w3 hs3 hk3 hn3
     have hl3 := hk3.blk hla (fun h => HFR2.out h)
     refine ⟨(hl3.cell 8), ?_⟩
     have hB3 : B ≤ w3.heap.size := Nat.le_trans hBa hk3.size
     have HY := Lib.hid (HF.out w3 (Keeps.below (HB2.out.drew.alloc hBd _) hk3 hBa (fun k h => h.1))).b
     refine held_bd (i := 8) rfl (by kernel_rfl) (by kernel_rfl) (.tmp 207) (.tmp 209) rfl B a3 (n2 + 1) c3 ((xs ++ varsE [f.c.t, f.c.id, f.c.mx]) ++ [byt ((f.n : Int) - 16)]) (by kernel_rfl) hs3 f.a f.n f.cap f.c.xs (by kernel_rfl) HY.out (by omega) hB3 ?_
     intro a4 c4 w4 hs4 hk4 hn4
     have hl4 := hk4.blk hl3 (fun h => HFR4 (near_to hn3 hka.size) h)
     refine ⟨(hl4.cell 8), ?_⟩
     have HS9 := Lib.hid hs4
     have hkk : Keeps (mine B a2) w2 w4 := HKd.out.to.trans (hka.to.trans (Keeps.step hk3 hn3 hk4))
     have hnn : Near B w2 a2 a4 := near_to (near_to (Near.step hn3 hk3 hn4) hka.size) HKd.out.size
     have HK9 : Hid (Keeps (mine B a) w w4) := Lib.hid (Keeps.step HK2.out HN2.out hkk)
     have HN9 : Hid (Near B w a a4) := Lib.hid (Near.step HN2.out HK2.out hnn)
     clear hS
     have hS : (fun w' : World => w'.cell? ⟨fb, 8, none⟩ = some (.slice f.a f.n f.cap)) w4 := (hl4.cell 8)
     refine tH (i := 9) (v := ?_) rfl ?_ hS ?_
     rotate_left
     ·intro wz _; go_simp; try with_reducible rfl
     refine tH (i := 10) (v := ?_) rfl ?_ hS ?_
     rotate_left
     ·intro wz _; go_simp; try with_reducible rfl
     refine wpAnyH_done (by kernel_rfl) ?_ _
     clear hS
     go_wp2_with fail
     refine bodyPost_ret (v := .tuple #[.slice a4 (n2 + 1 + f.n) c4, .bool true]) (by kernel_rfl) (by kernel_rfl) ?_
     refine ⟨HK9.out, ?_⟩
     rw [HE8.out]
     exact ⟨_, _, _, rfl, HS9.out, HN9.out⟩
    ·have d4 : decide ((4611686018427387903 : Int) < f.c.id) = true := by simp; omega
     have HEN : Hid (encO xs f.c = none) := Lib.hid (by
      rw [encO_plan (by rw [HT.out]; decide) (l := [24, f.c.id, f.c.mx]) (tl := byt ((f.c.xs.length : Int) - 16) :: f.c.xs) (by rw [HPL.out, if_pos HM.out]), numsO_no (by simp [varsOK]; omega)]; rfl)
     clear g3 g4
     go_wp2_with fail
     go_returns
     refine ⟨HK0.out.to, ?_⟩
     rw [HEN.out]
     rfl
   ·have d3 : decide (f.c.id < f.c.mx) = true := by simp; omega
    have HM := Lib.hid g3
    clear g3
    go_wp2_with fail
    go_returns
    refine ⟨HK0.out.to, ?_⟩
    rw [encO_no (by rw [HT.out]; decide) (by rw [HPL.out, if_neg (by have := HM.out; omega)])]
    rfl
  ·have d2 : decide ((36 : Int) < (f.n : Int)) = true := by simp; omega
   go_wp2_with fail
   go_returns
   refine ⟨HK0.out.to, ?_⟩
   rw [encO_no (by rw [HT.out]; decide) (by rw [HPL.out, if_neg (by have := HXL.out; omega)])]
   rfl
 ·have d1 : decide ((f.n : Int) < 17) = true := by simp; omega
  go_wp2_with fail
  go_returns
  refine ⟨HK0.out.to, ?_⟩
  rw [encO_no (by rw [HT.out]; decide) (by rw [HPL.out, if_neg (by have := HXL.out; omega)])]
  rfl

set_option maxRecDepth 100000 in
set_option maxHeartbeats 3200000 in
theorem one_18 (B : Nat) (a : Option Addr) (n c : Nat) (xs : List UInt8) (f : Qf) (w : World) (hd : Sb B w a n c xs) (hf : ∀ w', Below B w w' → Qin w' f) (ht : f.c.t = 18) (hn : n ≤ 10000000) (hn8 : f.n ≤ 1000000) (hB : B ≤ w.heap.size) :
  Calls Try.prog 25 #[.slice a n c, .agg f.cs] w (OneP B a (encO xs f.c) w) := by
 have HD := Lib.hid hd
 have HF := Lib.hid hf
 have HWF := Lib.hid (hf w (Below.refl _ _)).wf
 have HXL := Lib.hid (hf w (Below.refl _ _)).b.1
 have HK0 : Hid (Keeps (fun _ => False) w (w.alloc (.cells f.cs 32 (0, 0)))) := Lib.hid ((Keeps.refl _ w).alloc _)
 have HL1 := Lib.hid (Blk.new w f.cs 32)
 clear hd hf
 have HT := Lib.hid ht
 have e0 : (f.c.t == 0) = false := by simp [ht]
 have e1 : (f.c.t == 1) = false := by simp [ht]
 have e30 : (f.c.t == 30) = false := by simp [ht]
 have e2 : (f.c.t == 2) = false := by simp [ht]
 have e4 : (f.c.t == 4) = false := by simp [ht]
 have e5 : (f.c.t == 5) = false := by simp [ht]
 have e6 : (f.c.t == 6) = false := by simp [ht]
 have e7 : (f.c.t == 7) = false := by simp [ht]
 have e8 : (f.c.t == 8) = false := by simp [ht]
 have e16 : (f.c.t == 16) = false := by simp [ht]
 have e20 : (f.c.t == 20) = false := by simp [ht]
 have e17 : (f.c.t == 17) = false := by simp [ht]
 have e21 : (f.c.t == 21) = false := by simp [ht]
 have e18 : (f.c.t == 18) = true := by simp [ht]
 have HPL := Lib.hid (plan_18 ht)
 clear ht
 unfold Qf.cs at HK0 HL1 ⊢
 have HD1 := Lib.hid (HD.out.same HK0.out)
 go_enter Try.func25, Try.ntmps25
 go_upto_region 1 with fail
 refine wp_named ?_
 intro w1 hw1
 rw [hw1] at HK0 HL1 HD1
 have hs1 : w.heap.size ≤ w1.heap.size := HK0.out.size
 have HFR : Hid (¬ mine B a w.heap.size) := Lib.hid (HD.out.fresh (Nat.le_refl _))
 have HB1 : Hid (Below B w w1) := Lib.hid (Keeps.below (Below.refl B w) HK0.out hB (fun _ h => False.elim h))
 clear hw1
 generalize w.heap.size = fb at *
 have hB1 : B ≤ w1.heap.size := by omega
 have hx8 : IntKind.u64.wrap (f.n : Int) = (f.n : Int) := by rw [IntKind.wrap_u64]; omega
 have q8 : w1.cell? ⟨fb, 8, none⟩ = some (.slice f.a f.n f.cap) := HL1.out.cell 8
 have q0 : w1.cell? ⟨fb, 0, none⟩ = some (.int .u64 f.c.t) := HL1.out.cell 0
 have q4 : w1.cell? ⟨fb, 4, none⟩ = some (.int .u64 f.c.mx) := HL1.out.cell 4
 by_cases hm : f.c.mx ≤ 1152921504606846976
 ·have hmd : decide ((1152921504606846976 : Int) < f.c.mx) = false := by simp; omega
  have HM := Lib.hid hm
  have HE8 : Hid (encO xs f.c = numsO xs [f.c.t + b2i f.c.uni, f.c.mx]) := Lib.hid (encO_nums (by rw [HT.out]; decide) (by rw [HPL.out, if_pos HM.out, HT.out]))
  clear hm
  go_wp2_with fail
  clear q0 q4 q8 hmd
  have hb2 := b2i_bd f.c.uni
  have ht0 : 0 ≤ f.c.t := HWF.out.t.1
  have ht1 : f.c.t ≤ 900 := by rw [HT.out]; decide
  have hadd : IntKind.u64.wrap (f.c.t + b2i f.c.uni) = f.c.t + b2i f.c.uni := by rw [IntKind.wrap_u64]; omega
  have HKd : Hid (Keeps (fun _ => False) w1 w1.drew) := Lib.hid (Keeps.refl _ _).drew
  have HDd := Lib.hid (HD1.out.same HKd.out)
  have HLd := Lib.hid (HKd.out.blk HL1.out (fun h => h))
  have hBd : B ≤ w1.drew.heap.size := hB1
  refine wp_region_held (S := fun w' : World => w'.cell? ⟨fb, 0, none⟩ = some (.int .u64 f.c.t) ∧ w'.cell? ⟨fb, 9, none⟩ = some (.bool f.c.uni) ∧ w'.cell? ⟨fb, 4, none⟩ = some (.int .u64 f.c.mx)) (by kernel_rfl) ?_
  change wpAnyH _ _ _ _ _ _ _ _ (World.drew _)
  have hS : (fun w' : World => w'.cell? ⟨fb, 0, none⟩ = some (.int .u64 f.c.t) ∧ w'.cell? ⟨fb, 9, none⟩ = some (.bool f.c.uni) ∧ w'.cell? ⟨fb, 4, none⟩ = some (.int .u64 f.c.mx)) w1.drew := ⟨HLd.out.cell 0, HLd.out.cell 9, HLd.out.cell 4⟩
  refine tH (i := 0) (v := ?_) rfl ?_ hS ?_
  rotate_left
  ·intro wz ⟨_, _, _⟩; go_simp; try with_reducible rfl
  refine tH (i := 1) (v := ?_) rfl ?_ hS ?_
  rotate_left
  ·intro wz ⟨_, _, _⟩; go_simp; try with_reducible rfl
  refine tH (i := 2) (v := ?_) rfl ?_ hS ?_
  rotate_left
  ·intro wz ⟨_, _, _⟩; go_simp; try with_reducible rfl
  refine tH (i := 3) (v := ?_) rfl ?_ hS ?_
  rotate_left
  ·intro wz ⟨_, _, _⟩; go_simp; try with_reducible rfl
  refine tH (i := 6) (v := ?_) rfl ?_ hS ?_
  rotate_left
  ·intro wz ⟨_, _, _⟩; go_simp; try with_reducible rfl
  refine tH (i := 7) (v := ?_) rfl ?_ hS ?_
  rotate_left
  ·intro wz ⟨_, _, _⟩; go_simp; try with_reducible rfl
  refine held_call (i := 4) 45 #[.bool f.c.uni] rfl (by kernel_rfl) (by kernel_rfl) ?_ ?_
  ·go_simp; try with_reducible rfl
  refine (rone_any f.c.uni w1.drew).mono ?_
  rintro e w' ⟨rfl, rfl⟩
  refine ⟨_, rfl, hS, ?_⟩
  refine tH (i := 5) (v := ?_) rfl ?_ hS ?_
  rotate_left
  ·intro wz ⟨_, _, _⟩; go_simp; try with_reducible rfl
  have hka : Keeps (fun _ => False) w1.drew (w1.drew.alloc (.cells #[.int .u64 (f.c.t + b2i f.c.uni), .int .u64 f.c.mx] 29 (0, 0))) := (Keeps.refl _ _).alloc _
  have hla := hka.blk HLd.out (fun h => h)
  refine held_do (i := 8) (.slice (some ⟨w1.heap.size, 0, none⟩) 2 2) (w1.drew.alloc (.cells #[.int .u64 (f.c.t + b2i f.c.uni), .int .u64 f.c.mx] 29 (0, 0))) rfl (by kernel_rfl) (by kernel_rfl) ?_ ⟨hla.cell 0, hla.cell 9, hla.cell 4⟩ ?_
  ·go_simp; try with_reducible rfl
  have HLA := Lib.hid hla
  have HKA := Lib.hid (HKd.out.trans hka)
  clear hla hka hadd
  clear hS
  have hS : (fun w' : World => w'.cell? ⟨fb, 0, none⟩ = some (.int .u64 f.c.t) ∧ w'.cell? ⟨fb, 9, none⟩ = some (.bool f.c.uni) ∧ w'.cell? ⟨fb, 4, none⟩ = some (.int .u64 f.c.mx)) (w1.drew.alloc (.cells #[.int .u64 (f.c.t + b2i f.c.uni), .int .u64 f.c.mx] 29 (0, 0))) := ⟨HLA.out.cell 0, HLA.out.cell 9, HLA.out.cell 4⟩
  refine tH (i := 9) (v := ?_) rfl ?_ hS ?_
  rotate_left
  ·intro wz ⟨_, _, _⟩; go_simp; try with_reducible rfl
  refine wpAnyH_done (by kernel_rfl) ?_ _
  clear hS
  refine then_namedB fun b9 hb9 => ?_
  subst hb9
  have HU := Lib.hid (Uv.two' w1.drew 29 (f.c.t + b2i f.c.uni) f.c.mx ⟨by omega, by omega⟩ HWF.out.mx)
  go_wp2_with fail
  refine (fit_any _ 2 2 [f.c.t + b2i f.c.uni, f.c.mx] _ HU.out (by omega)).mono ?_
  rintro e w' ⟨rfl, rfl⟩
  cases hv : varsOK [f.c.t + b2i f.c.uni, f.c.mx] with
  | false =>
   have HV := Lib.hid hv
   clear hv
   go_wp2_with fail
   go_returns
   refine ⟨(HK0.out.trans HKA.out).to, ?_⟩
   rw [HE8.out, numsO_no HV.out]
   rfl
  | true =>
   have HV := Lib.hid hv
   clear hv
   go_wp2_with fail
   refine (put_new B a n c xs #[.int .u64 (f.c.t + b2i f.c.uni), .int .u64 f.c.mx] 2 [f.c.t + b2i f.c.uni, f.c.mx] w1.drew HDd.out HU.out (by simp) HV.out (by omega) (by omega) hBd).mono ?_
   rintro e w9 ⟨hk9, a9, n9, c9, rfl, hs9, hn9⟩
   have HK9 := Lib.hid ((HK0.out.trans HKd.out).to.trans hk9)
   have HN9 := Lib.hid (near_to hn9 (HK0.out.trans HKd.out).size)
   have HS9 := Lib.hid hs9
   clear hk9 hn9 hs9
   go_wp2_with fail
   go_returns
   refine ⟨HK9.out, ?_⟩
   rw [HE8.out, numsO_yes HV.out]
   exact ⟨_, _, _, rfl, HS9.out, HN9.out⟩
 ·have hmd : decide ((1152921504606846976 : Int) < f.c.mx) = true := by simp; omega
  have HM := Lib.hid hm
  clear hm
  go_wp2_with fail
  go_returns
  refine ⟨HK0.out.to, ?_⟩
  rw [encO_no (by rw [HT.out]; decide) (by rw [HPL.out, if_neg (by have := HM.out; omega)])]
  rfl

set_option maxRecDepth 100000 in
set_option maxHeartbeats 3200000 in
theorem one_22 (B : Nat) (a : Option Addr) (n c : Nat) (xs : List UInt8) (f : Qf) (w : World) (hd : Sb B w a n c xs) (hf : ∀ w', Below B w w' → Qin w' f) (ht : f.c.t = 22) (hn : n ≤ 10000000) (hn8 : f.n ≤ 1000000) (hB : B ≤ w.heap.size) :
  Calls Try.prog 25 #[.slice a n c, .agg f.cs] w (OneP B a (encO xs f.c) w) := by
 have HD := Lib.hid hd
 have HF := Lib.hid hf
 have HWF := Lib.hid (hf w (Below.refl _ _)).wf
 have HXL := Lib.hid (hf w (Below.refl _ _)).b.1
 have HK0 : Hid (Keeps (fun _ => False) w (w.alloc (.cells f.cs 32 (0, 0)))) := Lib.hid ((Keeps.refl _ w).alloc _)
 have HL1 := Lib.hid (Blk.new w f.cs 32)
 clear hd hf
 have HT := Lib.hid ht
 have e0 : (f.c.t == 0) = false := by simp [ht]
 have e1 : (f.c.t == 1) = false := by simp [ht]
 have e30 : (f.c.t == 30) = false := by simp [ht]
 have e2 : (f.c.t == 2) = false := by simp [ht]
 have e4 : (f.c.t == 4) = false := by simp [ht]
 have e5 : (f.c.t == 5) = false := by simp [ht]
 have e6 : (f.c.t == 6) = false := by simp [ht]
 have e7 : (f.c.t == 7) = false := by simp [ht]
 have e8 : (f.c.t == 8) = false := by simp [ht]
 have e16 : (f.c.t == 16) = false := by simp [ht]
 have e20 : (f.c.t == 20) = false := by simp [ht]
 have e17 : (f.c.t == 17) = false := by simp [ht]
 have e21 : (f.c.t == 21) = false := by simp [ht]
 have e18 : (f.c.t == 18) = false := by simp [ht]
 have e22 : (f.c.t == 22) = true := by simp [ht]
 have HPL := Lib.hid (plan_22 ht)
 clear ht
 unfold Qf.cs at HK0 HL1 ⊢
 have HD1 := Lib.hid (HD.out.same HK0.out)
 go_enter Try.func25, Try.ntmps25
 go_upto_region 1 with fail
 refine wp_named ?_
 intro w1 hw1
 rw [hw1] at HK0 HL1 HD1
 have hs1 : w.heap.size ≤ w1.heap.size := HK0.out.size
 have HFR : Hid (¬ mine B a w.heap.size) := Lib.hid (HD.out.fresh (Nat.le_refl _))
 have HB1 : Hid (Below B w w1) := Lib.hid (Keeps.below (Below.refl B w) HK0.out hB (fun _ h => False.elim h))
 clear hw1
 generalize w.heap.size = fb at *
 have hB1 : B ≤ w1.heap.size := by omega
 have hx8 : IntKind.u64.wrap (f.n : Int) = (f.n : Int) := by rw [IntKind.wrap_u64]; omega
 have q8 : w1.cell? ⟨fb, 8, none⟩ = some (.slice f.a f.n f.cap) := HL1.out.cell 8
 have q0 : w1.cell? ⟨fb, 0, none⟩ = some (.int .u64 f.c.t) := HL1.out.cell 0
 have q4 : w1.cell? ⟨fb, 4, none⟩ = some (.int .u64 f.c.mx) := HL1.out.cell 4
 by_cases hm : f.c.mx ≤ 1152921504606846976
 ·have hmd : decide ((1152921504606846976 : Int) < f.c.mx) = false := by simp; omega
  have HM := Lib.hid hm
  have HE8 : Hid (encO xs f.c = numsO xs [f.c.t + b2i f.c.uni, f.c.mx]) := Lib.hid (encO_nums (by rw [HT.out]; decide) (by rw [HPL.out, if_pos HM.out, HT.out]))
  clear hm
  go_wp2_with fail
  clear q0 q4 q8 hmd
  have hb2 := b2i_bd f.c.uni
  have ht0 : 0 ≤ f.c.t := HWF.out.t.1
  have ht1 : f.c.t ≤ 900 := by rw [HT.out]; decide
  have hadd : IntKind.u64.wrap (f.c.t + b2i f.c.uni) = f.c.t + b2i f.c.uni := by rw [IntKind.wrap_u64]; omega
  have HKd : Hid (Keeps (fun _ => False) w1 w1.drew) := Lib.hid (Keeps.refl _ _).drew
  have HDd := Lib.hid (HD1.out.same HKd.out)
  have HLd := Lib.hid (HKd.out.blk HL1.out (fun h => h))
  have hBd : B ≤ w1.drew.heap.size := hB1
  refine wp_region_held (S := fun w' : World => w'.cell? ⟨fb, 0, none⟩ = some (.int .u64 f.c.t) ∧ w'.cell? ⟨fb, 9, none⟩ = some (.bool f.c.uni) ∧ w'.cell? ⟨fb, 4, none⟩ = some (.int .u64 f.c.mx)) (by kernel_rfl) ?_
  change wpAnyH _ _ _ _ _ _ _ _ (World.drew _)
  have hS : (fun w' : World => w'.cell? ⟨fb, 0, none⟩ = some (.int .u64 f.c.t) ∧ w'.cell? ⟨fb, 9, none⟩ = some (.bool f.c.uni) ∧ w'.cell? ⟨fb, 4, none⟩ = some (.int .u64 f.c.mx)) w1.drew := ⟨HLd.out.cell 0, HLd.out.cell 9, HLd.out.cell 4⟩
  refine tH (i := 0) (v := ?_) rfl ?_ hS ?_
  rotate_left
  ·intro wz ⟨_, _, _⟩; go_simp; try with_reducible rfl
  refine tH (i := 1) (v := ?_) rfl ?_ hS ?_
  rotate_left
  ·intro wz ⟨_, _, _⟩; go_simp; try with_reducible rfl
  refine tH (i := 2) (v := ?_) rfl ?_ hS ?_
  rotate_left
  ·intro wz ⟨_, _, _⟩; go_simp; try with_reducible rfl
  refine tH (i := 3) (v := ?_) rfl ?_ hS ?_
  rotate_left
  ·intro wz ⟨_, _, _⟩; go_simp; try with_reducible rfl
  refine tH (i := 6) (v := ?_) rfl ?_ hS ?_
  rotate_left
  ·intro wz ⟨_, _, _⟩; go_simp; try with_reducible rfl
  refine tH (i := 7) (v := ?_) rfl ?_ hS ?_
  rotate_left
  ·intro wz ⟨_, _, _⟩; go_simp; try with_reducible rfl
  refine held_call (i := 4) 45 #[.bool f.c.uni] rfl (by kernel_rfl) (by kernel_rfl) ?_ ?_
  ·go_simp; try with_reducible rfl
  refine (rone_any f.c.uni w1.drew).mono ?_
  rintro e w' ⟨rfl, rfl⟩
  refine ⟨_, rfl, hS, ?_⟩
  refine tH (i := 5) (v := ?_) rfl ?_ hS ?_
  rotate_left
  ·intro wz ⟨_, _, _⟩; go_simp; try with_reducible rfl
  have hka : Keeps (fun _ => False) w1.drew (w1.drew.alloc (.cells #[.int .u64 (f.c.t + b2i f.c.uni), .int .u64 f.c.mx] 29 (0, 0))) := (Keeps.refl _ _).alloc _
  have hla := hka.blk HLd.out (fun h => h)
  refine held_do (i := 8) (.slice (some ⟨w1.heap.size, 0, none⟩) 2 2) (w1.drew.alloc (.cells #[.int .u64 (f.c.t + b2i f.c.uni), .int .u64 f.c.mx] 29 (0, 0))) rfl (by kernel_rfl) (by kernel_rfl) ?_ ⟨hla.cell 0, hla.cell 9, hla.cell 4⟩ ?_
  ·go_simp; try with_reducible rfl
  have HLA := Lib.hid hla
  have HKA := Lib.hid (HKd.out.trans hka)
  clear hla hka hadd
  clear hS
  have hS : (fun w' : World => w'.cell? ⟨fb, 0, none⟩ = some (.int .u64 f.c.t) ∧ w'.cell? ⟨fb, 9, none⟩ = some (.bool f.c.uni) ∧ w'.cell? ⟨fb, 4, none⟩ = some (.int .u64 f.c.mx)) (w1.drew.alloc (.cells #[.int .u64 (f.c.t + b2i f.c.uni), .int .u64 f.c.mx] 29 (0, 0))) := ⟨HLA.out.cell 0, HLA.out.cell 9, HLA.out.cell 4⟩
  refine tH (i := 9) (v := ?_) rfl ?_ hS ?_
  rotate_left
  ·intro wz ⟨_, _, _⟩; go_simp; try with_reducible rfl
  refine wpAnyH_done (by kernel_rfl) ?_ _
  clear hS
  refine then_namedB fun b9 hb9 => ?_
  subst hb9
  have HU := Lib.hid (Uv.two' w1.drew 29 (f.c.t + b2i f.c.uni) f.c.mx ⟨by omega, by omega⟩ HWF.out.mx)
  go_wp2_with fail
  refine (fit_any _ 2 2 [f.c.t + b2i f.c.uni, f.c.mx] _ HU.out (by omega)).mono ?_
  rintro e w' ⟨rfl, rfl⟩
  cases hv : varsOK [f.c.t + b2i f.c.uni, f.c.mx] with
  | false =>
   have HV := Lib.hid hv
   clear hv
   go_wp2_with fail
   go_returns
   refine ⟨(HK0.out.trans HKA.out).to, ?_⟩
   rw [HE8.out, numsO_no HV.out]
   rfl
  | true =>
   have HV := Lib.hid hv
   clear hv
   go_wp2_with fail
   refine (put_new B a n c xs #[.int .u64 (f.c.t + b2i f.c.uni), .int .u64 f.c.mx] 2 [f.c.t + b2i f.c.uni, f.c.mx] w1.drew HDd.out HU.out (by simp) HV.out (by omega) (by omega) hBd).mono ?_
   rintro e w9 ⟨hk9, a9, n9, c9, rfl, hs9, hn9⟩
   have HK9 := Lib.hid ((HK0.out.trans HKd.out).to.trans hk9)
   have HN9 := Lib.hid (near_to hn9 (HK0.out.trans HKd.out).size)
   have HS9 := Lib.hid hs9
   clear hk9 hn9 hs9
   go_wp2_with fail
   go_returns
   refine ⟨HK9.out, ?_⟩
   rw [HE8.out, numsO_yes HV.out]
   exact ⟨_, _, _, rfl, HS9.out, HN9.out⟩
 ·have hmd : decide ((1152921504606846976 : Int) < f.c.mx) = true := by simp; omega
  have HM := Lib.hid hm
  clear hm
  go_wp2_with fail
  go_returns
  refine ⟨HK0.out.to, ?_⟩
  rw [encO_no (by rw [HT.out]; decide) (by rw [HPL.out, if_neg (by have := HM.out; omega)])]
  rfl

set_option maxRecDepth 100000 in
set_option maxHeartbeats 3200000 in
theorem one_28 (B : Nat) (a : Option Addr) (n c : Nat) (xs : List UInt8) (f : Qf) (w : World) (hd : Sb B w a n c xs) (hf : ∀ w', Below B w w' → Qin w' f) (ht : f.c.t = 28) (hn : n ≤ 10000000) (hn8 : f.n ≤ 1000000) (hB : B ≤ w.heap.size) :
  Calls Try.prog 25 #[.slice a n c, .agg f.cs] w (OneP B a (encO xs f.c) w) := by
 have HD := Lib.hid hd
 have HF := Lib.hid hf
 have HWF := Lib.hid (hf w (Below.refl _ _)).wf
 have HXL := Lib.hid (hf w (Below.refl _ _)).b.1
 have HK0 : Hid (Keeps (fun _ => False) w (w.alloc (.cells f.cs 32 (0, 0)))) := Lib.hid ((Keeps.refl _ w).alloc _)
 have HL1 := Lib.hid (Blk.new w f.cs 32)
 clear hd hf
 have HT := Lib.hid ht
 have e0 : (f.c.t == 0) = false := by simp [ht]
 have e1 : (f.c.t == 1) = false := by simp [ht]
 have e30 : (f.c.t == 30) = false := by simp [ht]
 have e2 : (f.c.t == 2) = false := by simp [ht]
 have e4 : (f.c.t == 4) = false := by simp [ht]
 have e5 : (f.c.t == 5) = false := by simp [ht]
 have e6 : (f.c.t == 6) = false := by simp [ht]
 have e7 : (f.c.t == 7) = false := by simp [ht]
 have e8 : (f.c.t == 8) = false := by simp [ht]
 have e16 : (f.c.t == 16) = false := by simp [ht]
 have e20 : (f.c.t == 20) = false := by simp [ht]
 have e17 : (f.c.t == 17) = false := by simp [ht]
 have e21 : (f.c.t == 21) = false := by simp [ht]
 have e18 : (f.c.t == 18) = false := by simp [ht]
 have e22 : (f.c.t == 22) = false := by simp [ht]
 have e24 : (f.c.t == 24) = false := by simp [ht]
 have e25 : (f.c.t == 25) = false := by simp [ht]
 have e26 : (f.c.t == 26) = false := by simp [ht]
 have e27 : (f.c.t == 27) = false := by simp [ht]
 have e28 : (f.c.t == 28) = true := by simp [ht]
 have HPL := Lib.hid (plan_28 ht)
 clear ht
 unfold Qf.cs at HK0 HL1 ⊢
 have HD1 := Lib.hid (HD.out.same HK0.out)
 go_enter Try.func25, Try.ntmps25
 go_upto_region 1 with fail
 refine wp_named ?_
 intro w1 hw1
 rw [hw1] at HK0 HL1 HD1
 have hs1 : w.heap.size ≤ w1.heap.size := HK0.out.size
 have HFR : Hid (¬ mine B a w.heap.size) := Lib.hid (HD.out.fresh (Nat.le_refl _))
 have HB1 : Hid (Below B w w1) := Lib.hid (Keeps.below (Below.refl B w) HK0.out hB (fun _ h => False.elim h))
 clear hw1
 generalize w.heap.size = fb at *
 have hB1 : B ≤ w1.heap.size := by omega
 have hx8 : IntKind.u64.wrap (f.n : Int) = (f.n : Int) := by rw [IntKind.wrap_u64]; omega
 have q8 : w1.cell? ⟨fb, 8, none⟩ = some (.slice f.a f.n f.cap) := HL1.out.cell 8
 have q0 : w1.cell? ⟨fb, 0, none⟩ = some (.int .u64 f.c.t) := HL1.out.cell 0
 have q10 : w1.cell? ⟨fb, 10, none⟩ = some (.bool f.c.app) := HL1.out.cell 10
 go_wp2_with fail
 clear q0 q8 q10
 have hb2 := b2i_bd f.c.app
 have ht0 : 0 ≤ f.c.t := HWF.out.t.1
 have ht1 : f.c.t ≤ 900 := by rw [HT.out]; decide
 have hadd : IntKind.u64.wrap (f.c.t + b2i f.c.app) = f.c.t + b2i f.c.app := by rw [IntKind.wrap_u64]; omega
 have HKd : Hid (Keeps (fun _ => False) w1 w1.drew) := Lib.hid (Keeps.refl _ _).drew
 have HDd := Lib.hid (HD1.out.same HKd.out)
 have HLd := Lib.hid (HKd.out.blk HL1.out (fun h => h))
 have hBd : B ≤ w1.drew.heap.size := hB1
 refine wp_region_held (S := fun w' : World => w'.cell? ⟨fb, 0, none⟩ = some (.int .u64 f.c.t) ∧ w'.cell? ⟨fb, 10, none⟩ = some (.bool f.c.app) ∧ w'.cell? ⟨fb, 5, none⟩ = some (.int .u64 f.c.code)) (by kernel_rfl) ?_
 change wpAnyH _ _ _ _ _ _ _ _ (World.drew _)
 have hS : (fun w' : World => w'.cell? ⟨fb, 0, none⟩ = some (.int .u64 f.c.t) ∧ w'.cell? ⟨fb, 10, none⟩ = some (.bool f.c.app) ∧ w'.cell? ⟨fb, 5, none⟩ = some (.int .u64 f.c.code)) w1.drew := ⟨HLd.out.cell 0, HLd.out.cell 10, HLd.out.cell 5⟩
 refine tH (i := 0) (v := ?_) rfl ?_ hS ?_
 rotate_left
 ·intro wz ⟨_, _, _⟩; go_simp; try with_reducible rfl
 refine tH (i := 1) (v := ?_) rfl ?_ hS ?_
 rotate_left
 ·intro wz ⟨_, _, _⟩; go_simp; try with_reducible rfl
 refine tH (i := 2) (v := ?_) rfl ?_ hS ?_
 rotate_left
 ·intro wz ⟨_, _, _⟩; go_simp; try with_reducible rfl
 refine tH (i := 3) (v := ?_) rfl ?_ hS ?_
 rotate_left
 ·intro wz ⟨_, _, _⟩; go_simp; try with_reducible rfl
 refine tH (i := 6) (v := ?_) rfl ?_ hS ?_
 rotate_left
 ·intro wz ⟨_, _, _⟩; go_simp; try with_reducible rfl
 refine tH (i := 7) (v := ?_) rfl ?_ hS ?_
 rotate_left
 ·intro wz ⟨_, _, _⟩; go_simp; try with_reducible rfl
 refine held_call (i := 4) 45 #[.bool f.c.app] rfl (by kernel_rfl) (by kernel_rfl) ?_ ?_
 ·go_simp; try with_reducible rfl
 refine (rone_any f.c.app w1.drew).mono ?_
 rintro e w' ⟨rfl, rfl⟩
 refine ⟨_, rfl, hS, ?_⟩
 refine tH (i := 5) (v := ?_) rfl ?_ hS ?_
 rotate_left
 ·intro wz ⟨_, _, _⟩; go_simp; try with_reducible rfl
 have hka : Keeps (fun _ => False) w1.drew (w1.drew.alloc (.cells #[.int .u64 (f.c.t + b2i f.c.app), .int .u64 f.c.code] 29 (0, 0))) := (Keeps.refl _ _).alloc _
 have hla := hka.blk HLd.out (fun h => h)
 refine held_do (i := 8) (.slice (some ⟨w1.heap.size, 0, none⟩) 2 2) (w1.drew.alloc (.cells #[.int .u64 (f.c.t + b2i f.c.app), .int .u64 f.c.code] 29 (0, 0))) rfl (by kernel_rfl) (by kernel_rfl) ?_ ⟨hla.cell 0, hla.cell 10, hla.cell 5⟩ ?_
 ·go_simp; try with_reducible rfl
 have HLA := Lib.hid hla
 have HKA := Lib.hid (HKd.out.trans hka)
 clear hla hka hadd
 clear hS
 have hS : (fun w' : World => w'.cell? ⟨fb, 0, none⟩ = some (.int .u64 f.c.t) ∧ w'.cell? ⟨fb, 10, none⟩ = some (.bool f.c.app) ∧ w'.cell? ⟨fb, 5, none⟩ = some (.int .u64 f.c.code)) (w1.drew.alloc (.cells #[.int .u64 (f.c.t + b2i f.c.app), .int .u64 f.c.code] 29 (0, 0))) := ⟨HLA.out.cell 0, HLA.out.cell 10, HLA.out.cell 5⟩
 refine tH (i := 9) (v := ?_) rfl ?_ hS ?_
 rotate_left
 ·intro wz ⟨_, _, _⟩; go_simp; try with_reducible rfl
 refine wpAnyH_done (by kernel_rfl) ?_ _
 clear hS
 have HU0 : Hid (Uo w1.heap.size (w1.drew.alloc (.cells #[.int .u64 (f.c.t + b2i f.c.app), .int .u64 f.c.code] 29 (0, 0))) (some ⟨w1.heap.size, 0, none⟩) 2 2 [f.c.t + b2i f.c.app, f.c.code]) := Lib.hid (Uo.new (w := w1.drew) (L := w1.heap.size) rfl rfl (by omega) (Nat.le_refl _))
 refine then_namedW fun b9 hb9 w2 hw2 => ?_
 subst hb9
 rw [hw2] at HU0 HLA HKA
 clear hw2
 have r10 : w2.cell? ⟨fb, 10, none⟩ = some (.bool f.c.app) := HLA.out.cell 10
 have r2 : w2.cell? ⟨fb, 2, none⟩ = some (.int .u64 f.c.off) := HLA.out.cell 2
 cases hap : f.c.app with
 | true =>
  have HAP := Lib.hid hap
  clear hap
  have hap : f.c.app = true := HAP.out
  have HE8 : Hid (encO xs f.c = thenO (numsO xs ([f.c.t + b2i f.c.app, f.c.code] ++ [(f.n : Int)])) f.c.xs) := Lib.hid (encO_plan (by rw [HT.out]; decide) (by rw [HPL.out, if_pos HAP.out, HT.out, HAP.out, HXL.out]; rfl))
  have HPI : Hid (∀ v ∈ [f.c.t + b2i f.c.app, f.c.code] ++ [(f.n : Int)], inU v) := Lib.hid (by
   intro v hv
   simp only [List.cons_append, List.nil_append, List.mem_cons, List.not_mem_nil, or_false] at hv
   rcases hv with rfl | rfl | rfl
   ·exact ⟨by omega, by omega⟩
   ·exact HWF.out.code

   ·exact ⟨by omega, by omega⟩)

  go_wp2_with fail
  clear r10 r2 hap
  refine (fit_any _ 2 2 [f.c.t + b2i f.c.app, f.c.code] _ (HU0.out.uv (fun v hv => HPI.out v (List.mem_append_left _ hv))) (by omega)).mono ?_
  rintro e w' ⟨rfl, rfl⟩
  cases hv : varsOK [f.c.t + b2i f.c.app, f.c.code] with
  | false =>
   have HVN : Hid (varsOK ([f.c.t + b2i f.c.app, f.c.code] ++ [(f.n : Int)]) = false) := Lib.hid (by rw [varsOK_append, hv]; rfl)
   clear hv
   go_wp2_with fail
   go_returns
   refine ⟨(HK0.out.trans HKA.out).to, ?_⟩
   rw [HE8.out, numsO_no HVN.out]
   rfl
  | true =>
   have HV : Hid (varsOK ([f.c.t + b2i f.c.app, f.c.code] ++ [(f.n : Int)]) = true) := Lib.hid (by rw [varsOK_append, hv, varsOK_len f.n hn8]; rfl)
   clear hv
   go_wp2_with fail
   have HFR5 : ∀ {a3 : Option Addr}, Near B w1 a a3 → ¬ mine B a3 fb := fun hn h => by
    rcases hn fb h.2 with rfl | ⟨h1, _⟩
    ·exact HFR.out h
    ·have := HL1.out.lt; omega
   have HKd : Hid (Keeps (fun _ => False) w1 w2.drew) := Lib.hid ((HKA.out).trans (Keeps.refl _ _).drew)
   have HDd := Lib.hid (HD1.out.same HKd.out)
   have HLd := Lib.hid (HKd.out.blk HL1.out (fun h => h))
   have hBd : B ≤ w2.drew.heap.size := Nat.le_trans hB1 HKd.out.size
   refine wp_region_held (S := fun w' : World => w'.cell? ⟨fb, 8, none⟩ = some (.slice f.a f.n f.cap)) (by kernel_rfl) ?_
   change wpAnyH _ _ _ _ _ _ _ _ (World.drew _)
   have hS : (fun w' : World => w'.cell? ⟨fb, 8, none⟩ = some (.slice f.a f.n f.cap)) w2.drew := (HLd.out.cell 8)
   refine tH (i := 0) (v := ?_) rfl ?_ hS ?_
   rotate_left
   ·intro wz _; go_simp; try with_reducible rfl
   refine tH (i := 1) (v := ?_) rfl ?_ hS ?_
   rotate_left
   ·intro wz _; go_simp; try with_reducible rfl
   refine tH (i := 2) (v := ?_) rfl ?_ hS ?_
   rotate_left
   ·intro wz _; go_simp; try with_reducible rfl
   refine tH (i := 6) (v := ?_) rfl ?_ hS ?_
   rotate_left
   ·intro wz _; go_simp; try with_reducible rfl
   refine tH (i := 7) (v := ?_) rfl ?_ hS ?_
   rotate_left
   ·intro wz _; go_simp; try with_reducible rfl
   have hka : Keeps (fun _ => False) w2.drew (w2.drew.alloc (.cells #[.int .u64 (f.n : Int)] 29 (0, 0))) := (Keeps.refl _ _).alloc _
   have hLd : w1.heap.size ≤ w2.drew.heap.size := HKd.out.size
   have hxd : Keeps (fun _ => False) w2 w2.drew := (Keeps.refl _ _).drew
   refine held_do (i := 3) (.slice (some ⟨w2.heap.size, 0, none⟩) 1 1) (w2.drew.alloc (.cells #[.int .u64 (f.n : Int)] 29 (0, 0))) rfl (by kernel_rfl) (by kernel_rfl) ?_ ((hka.blk HLd.out (fun h => h)).cell 8) ?_
   ·go_simp; try with_reducible rfl
   refine held_uo (i := 4) rfl (by kernel_rfl) (by kernel_rfl) (.tmp 255) (.tmp 257) rfl w1.heap.size (some ⟨w1.heap.size, 0, none⟩) 2 2 [f.c.t + b2i f.c.app, f.c.code] (by kernel_rfl) ((HU0.out.keep hxd (fun _ _ h => h)).keep hka (fun _ _ h => h)) _ 1 1 [(f.n : Int)] (by kernel_rfl) (Uv.one' w2.drew _ (f.n : Int) ⟨by omega, by omega⟩) (by omega) (by omega) (Nat.le_trans hLd hka.size) ?_
   intro l5 lc5 w5 hu5 hk5 hn5
   have hk15 : Keeps (fun _ => False) w1 w5 := Keeps.trans2 (HKd.out.trans hka) hk5 (fun i hi h => by have := h.1; omega)
   have hl5 := hk15.blk HL1.out (fun h => h)
   refine ⟨(hl5.cell 8), ?_⟩
   clear hS
   have hS : (fun w' : World => w'.cell? ⟨fb, 8, none⟩ = some (.slice f.a f.n f.cap)) w5 := (hl5.cell 8)
   refine held_call (i := 5) 44 #[.slice a n c, .slice l5 (2 + 1) lc5] rfl (by kernel_rfl) (by kernel_rfl) ?_ ?_
   ·go_simp; try with_reducible rfl
   have hB5 : B ≤ w5.heap.size := Nat.le_trans hB1 hk15.size
   refine (put_any B a n c xs l5 (2 + 1) lc5 ([f.c.t + b2i f.c.app, f.c.code] ++ [(f.n : Int)]) w5 (HD1.out.same hk15) (hu5.uv HPI.out) (by simp) HV.out (fun b hb h => by have h1 := (hu5.ge b hb).1; have h2 := HD1.out.2 b h.2; omega) (by omega) (by omega) hB5).mono ?_
   rintro e w3 ⟨hk3, a3, n3, c3, rfl, hs3, hn3⟩
   have hn13 : Near B w1 a a3 := near_to hn3 hk15.size
   have hk13 : Keeps (mine B a) w1 w3 := hk15.to.trans hk3
   have hl3 := hk13.blk HL1.out HFR.out
   have hB3 : B ≤ w3.heap.size := Nat.le_trans hB5 hk3.size
   have hln3 : n3 ≤ n + 40 := by
    have h1 := hs3.1.1
    have h2 := HD1.out.1.1
    have h3 := numsO_len (numsO_yes (xs := xs) HV.out)
    simp only [List.length_append, List.length_cons, List.length_nil] at h1 h3
    omega
   have HY := Lib.hid (HF.out w3 (Keeps.below HB1.out hk13 hB1 (fun k h => h.1))).b
   refine ⟨_, rfl, (hl3.cell 8), ?_⟩
   clear hS
   have hS : (fun w' : World => w'.cell? ⟨fb, 8, none⟩ = some (.slice f.a f.n f.cap)) w3 := (hl3.cell 8)
   refine held_bd (i := 8) rfl (by kernel_rfl) (by kernel_rfl) (.tmp 259) (.tmp 261) rfl B a3 n3 c3 (xs ++ varsE ([f.c.t + b2i f.c.app, f.c.code] ++ [(f.n : Int)])) (by kernel_rfl) hs3 f.a f.n f.cap f.c.xs (by kernel_rfl) HY.out (by omega) hB3 ?_
   intro a4 c4 w4 hs4 hk4 hn4
   have hl4 := hk4.blk hl3 (fun h => HFR5 hn13 h)
   refine ⟨(hl4.cell 8), ?_⟩
   have HS9 := Lib.hid hs4
   have HK9 : Hid (Keeps (mine B a) w w4) := Lib.hid (HK0.out.to.trans (Keeps.step hk13 hn13 hk4))
   have HN9 : Hid (Near B w a a4) := Lib.hid (near_to (Near.step hn13 hk13 hn4) HK0.out.size)
   clear hS
   have hS : (fun w' : World => w'.cell? ⟨fb, 8, none⟩ = some (.slice f.a f.n f.cap)) w4 := (hl4.cell 8)
   refine tH (i := 9) (v := ?_) rfl ?_ hS ?_
   rotate_left
   ·intro wz _; go_simp; try with_reducible rfl
   refine tH (i := 10) (v := ?_) rfl ?_ hS ?_
   rotate_left
   ·intro wz _; go_simp; try with_reducible rfl
   refine wpAnyH_done (by kernel_rfl) ?_ _
   clear hS
   go_wp2_with fail
   refine bodyPost_ret (v := .tuple #[.slice a4 (n3 + f.n) c4, .bool true]) (by kernel_rfl) (by kernel_rfl) ?_
   refine ⟨HK9.out, ?_⟩
   rw [HE8.out, numsO_yes HV.out, thenO_some]
   exact ⟨_, _, _, rfl, HS9.out, HN9.out⟩

 | false =>
  have HAP := Lib.hid hap
  clear hap
  have hap : f.c.app = false := HAP.out
  have HE8 : Hid (encO xs f.c = thenO (numsO xs ([f.c.t + b2i f.c.app, f.c.code, f.c.off] ++ [(f.n : Int)])) f.c.xs) := Lib.hid (encO_plan (by rw [HT.out]; decide) (by rw [HPL.out, if_neg (by rw [HAP.out]; simp), HT.out, HAP.out, HXL.out]; rfl))
  have HPI : Hid (∀ v ∈ [f.c.t + b2i f.c.app, f.c.code, f.c.off] ++ [(f.n : Int)], inU v) := Lib.hid (by
   intro v hv
   simp only [List.cons_append, List.nil_append, List.mem_cons, List.not_mem_nil, or_false] at hv
   rcases hv with rfl | rfl | rfl | rfl
   ·exact ⟨by omega, by omega⟩
   ·exact HWF.out.code
   ·exact HWF.out.off
   ·exact ⟨by omega, by omega⟩)

  go_wp2_with (at_builtin; refine halt ?_)
  have hkb : Keeps (fun _ => False) w2 (w2.alloc (.cells #[.int .u64 f.c.off] 29 (0, 0))) := (Keeps.refl _ _).alloc _
  refine Halted.go (wpList_uo _ rfl _ _ rfl w1.heap.size (some ⟨w1.heap.size, 0, none⟩) 2 2 [f.c.t + b2i f.c.app, f.c.code] rfl (HU0.out.keep hkb (fun _ _ h => h)) _ 1 1 [f.c.off] rfl (Uv.one' w2 _ f.c.off HWF.out.off) (by omega) (by omega) (Nat.le_trans HKA.out.size hkb.size) ?_)
  intro la lc w4 hu4 hk4 hn4
  have HK4 : Hid (Keeps (fun _ => False) w1 w4) := Lib.hid (Keeps.trans2 (HKA.out.trans hkb) hk4 (fun i hi h => by have := h.1; omega))
  have HU4 : Hid (Uo w1.heap.size w4 la 3 lc [f.c.t + b2i f.c.app, f.c.code, f.c.off]) := Lib.hid hu4
  clear hu4 hk4 hn4 hkb r10 r2 hap
  go_wp2_with fail
  refine (fit_any _ 3 lc [f.c.t + b2i f.c.app, f.c.code, f.c.off] _ (HU4.out.uv (fun v hv => HPI.out v (List.mem_append_left _ hv))) (by omega)).mono ?_
  rintro e w' ⟨rfl, rfl⟩
  cases hv : varsOK [f.c.t + b2i f.c.app, f.c.code, f.c.off] with
  | false =>
   have HVN : Hid (varsOK ([f.c.t + b2i f.c.app, f.c.code, f.c.off] ++ [(f.n : Int)]) = false) := Lib.hid (by rw [varsOK_append, hv]; rfl)
   clear hv
   go_wp2_with fail
   go_returns
   refine ⟨(HK0.out.trans HK4.out).to, ?_⟩
   rw [HE8.out, numsO_no HVN.out]
   rfl
  | true =>
   have HV : Hid (varsOK ([f.c.t + b2i f.c.app, f.c.code, f.c.off] ++ [(f.n : Int)]) = true) := Lib.hid (by rw [varsOK_append, hv, varsOK_len f.n hn8]; rfl)
   clear hv
   go_wp2_with fail
   have HFR5 : ∀ {a3 : Option Addr}, Near B w1 a a3 → ¬ mine B a3 fb := fun hn h => by
    rcases hn fb h.2 with rfl | ⟨h1, _⟩
    ·exact HFR.out h
    ·have := HL1.out.lt; omega
   have HKd : Hid (Keeps (fun _ => False) w1 w4.drew) := Lib.hid ((HK4.out).trans (Keeps.refl _ _).drew)
   have HDd := Lib.hid (HD1.out.same HKd.out)
   have HLd := Lib.hid (HKd.out.blk HL1.out (fun h => h))
   have hBd : B ≤ w4.drew.heap.size := Nat.le_trans hB1 HKd.out.size
   refine wp_region_held (S := fun w' : World => w'.cell? ⟨fb, 8, none⟩ = some (.slice f.a f.n f.cap)) (by kernel_rfl) ?_
   change wpAnyH _ _ _ _ _ _ _ _ (World.drew _)
   have hS : (fun w' : World => w'.cell? ⟨fb, 8, none⟩ = some (.slice f.a f.n f.cap)) w4.drew := (HLd.out.cell 8)
   refine tH (i := 0) (v := ?_) rfl ?_ hS ?_
   rotate_left
   ·intro wz _; go_simp; try with_reducible rfl
   refine tH (i := 1) (v := ?_) rfl ?_ hS ?_
   rotate_left
   ·intro wz _; go_simp; try with_reducible rfl
   refine tH (i := 2) (v := ?_) rfl ?_ hS ?_
   rotate_left
   ·intro wz _; go_simp; try with_reducible rfl
   refine tH (i := 6) (v := ?_) rfl ?_ hS ?_
   rotate_left
   ·intro wz _; go_simp; try with_reducible rfl
   refine tH (i := 7) (v := ?_) rfl ?_ hS ?_
   rotate_left
   ·intro wz _; go_simp; try with_reducible rfl
   have hka : Keeps (fun _ => False) w4.drew (w4.drew.alloc (.cells #[.int .u64 (f.n : Int)] 29 (0, 0))) := (Keeps.refl _ _).alloc _
   have hLd : w1.heap.size ≤ w4.drew.heap.size := HKd.out.size
   have hxd : Keeps (fun _ => False) w4 w4.drew := (Keeps.refl _ _).drew
   refine held_do (i := 3) (.slice (some ⟨w4.heap.size, 0, none⟩) 1 1) (w4.drew.alloc (.cells #[.int .u64 (f.n : Int)] 29 (0, 0))) rfl (by kernel_rfl) (by kernel_rfl) ?_ ((hka.blk HLd.out (fun h => h)).cell 8) ?_
   ·go_simp; try with_reducible rfl
   refine held_uo (i := 4) rfl (by kernel_rfl) (by kernel_rfl) (.tmp 255) (.tmp 257) rfl w1.heap.size la 3 lc [f.c.t + b2i f.c.app, f.c.code, f.c.off] (by kernel_rfl) ((HU4.out.keep hxd (fun _ _ h => h)).keep hka (fun _ _ h => h)) _ 1 1 [(f.n : Int)] (by kernel_rfl) (Uv.one' w4.drew _ (f.n : Int) ⟨by omega, by omega⟩) (by omega) (by omega) (Nat.le_trans hLd hka.size) ?_
   intro l5 lc5 w5 hu5 hk5 hn5
   have hk15 : Keeps (fun _ => False) w1 w5 := Keeps.trans2 (HKd.out.trans hka) hk5 (fun i hi h => by have := h.1; omega)
   have hl5 := hk15.blk HL1.out (fun h => h)
   refine ⟨(hl5.cell 8), ?_⟩
   clear hS
   have hS : (fun w' : World => w'.cell? ⟨fb, 8, none⟩ = some (.slice f.a f.n f.cap)) w5 := (hl5.cell 8)
   refine held_call (i := 5) 44 #[.slice a n c, .slice l5 (3 + 1) lc5] rfl (by kernel_rfl) (by kernel_rfl) ?_ ?_
   ·go_simp; try with_reducible rfl
   have hB5 : B ≤ w5.heap.size := Nat.le_trans hB1 hk15.size
   refine (put_any B a n c xs l5 (3 + 1) lc5 ([f.c.t + b2i f.c.app, f.c.code, f.c.off] ++ [(f.n : Int)]) w5 (HD1.out.same hk15) (hu5.uv HPI.out) (by simp) HV.out (fun b hb h => by have h1 := (hu5.ge b hb).1; have h2 := HD1.out.2 b h.2; omega) (by omega) (by omega) hB5).mono ?_
   rintro e w3 ⟨hk3, a3, n3, c3, rfl, hs3, hn3⟩
   have hn13 : Near B w1 a a3 := near_to hn3 hk15.size
   have hk13 : Keeps (mine B a) w1 w3 := hk15.to.trans hk3
   have hl3 := hk13.blk HL1.out HFR.out
   have hB3 : B ≤ w3.heap.size := Nat.le_trans hB5 hk3.size
   have hln3 : n3 ≤ n + 40 := by
    have h1 := hs3.1.1
    have h2 := HD1.out.1.1
    have h3 := numsO_len (numsO_yes (xs := xs) HV.out)
    simp only [List.length_append, List.length_cons, List.length_nil] at h1 h3
    omega
   have HY := Lib.hid (HF.out w3 (Keeps.below HB1.out hk13 hB1 (fun k h => h.1))).b
   refine ⟨_, rfl, (hl3.cell 8), ?_⟩
   clear hS
   have hS : (fun w' : World => w'.cell? ⟨fb, 8, none⟩ = some (.slice f.a f.n f.cap)) w3 := (hl3.cell 8)
   refine held_bd (i := 8) rfl (by kernel_rfl) (by kernel_rfl) (.tmp 259) (.tmp 261) rfl B a3 n3 c3 (xs ++ varsE ([f.c.t + b2i f.c.app, f.c.code, f.c.off] ++ [(f.n : Int)])) (by kernel_rfl) hs3 f.a f.n f.cap f.c.xs (by kernel_rfl) HY.out (by omega) hB3 ?_
   intro a4 c4 w4 hs4 hk4 hn4
   have hl4 := hk4.blk hl3 (fun h => HFR5 hn13 h)
   refine ⟨(hl4.cell 8), ?_⟩
   have HS9 := Lib.hid hs4
   have HK9 : Hid (Keeps (mine B a) w w4) := Lib.hid (HK0.out.to.trans (Keeps.step hk13 hn13 hk4))
   have HN9 : Hid (Near B w a a4) := Lib.hid (near_to (Near.step hn13 hk13 hn4) HK0.out.size)
   clear hS
   have hS : (fun w' : World => w'.cell? ⟨fb, 8, none⟩ = some (.slice f.a f.n f.cap)) w4 := (hl4.cell 8)
   refine tH (i := 9) (v := ?_) rfl ?_ hS ?_
   rotate_left
   ·intro wz _; go_simp; try with_reducible rfl
   refine tH (i := 10) (v := ?_) rfl ?_ hS ?_
   rotate_left
   ·intro wz _; go_simp; try with_reducible rfl
   refine wpAnyH_done (by kernel_rfl) ?_ _
   clear hS
   go_wp2_with fail
   refine bodyPost_ret (v := .tuple #[.slice a4 (n3 + f.n) c4, .bool true]) (by kernel_rfl) (by kernel_rfl) ?_
   refine ⟨HK9.out, ?_⟩
   rw [HE8.out, numsO_yes HV.out, thenO_some]
   exact ⟨_, _, _, rfl, HS9.out, HN9.out⟩


end Go.Proofs.Ytgfkgmmigbpciaa
