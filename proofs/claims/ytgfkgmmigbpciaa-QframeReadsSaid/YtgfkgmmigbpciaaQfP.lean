/- One of the reference: with text. -/
import Derived.Test.YtgfkgmmigbpciaaQfM
namespace Go.Proofs.Ytgfkgmmigbpciaa
set_option linter.unusedSimpArgs false
set_option linter.unusedVariables false
open Go.RowKit Go.Deep

set_option maxRecDepth 100000 in
set_option maxHeartbeats 3200000 in
theorem one_1 (B : Nat) (a : Option Addr) (n c : Nat) (xs : List UInt8) (f : Qf) (w : World) (hd : Sb B w a n c xs) (hf : ∀ w', Below B w w' → Qin w' f) (ht : f.c.t = 1) (hn : n ≤ 10000000) (hn8 : f.n ≤ 1000000) (hB : B ≤ w.heap.size) :
  Calls Try.prog 25 #[.slice a n c, .agg f.cs] w (OneP B a (encO xs f.c) w) := by
 have HD := Lib.hid hd
 have HF := Lib.hid hf
 have HWF := Lib.hid (hf w (Below.refl _ _)).wf
 have HXL := Lib.hid (hf w (Below.refl _ _)).b.1
 have HK0 : Hid (Keeps (fun _ => False) w (w.alloc (.cells f.cs 32 (0, 0)))) := Lib.hid ((Keeps.refl _ w).alloc _)
 have HL1 := Lib.hid (Blk.new w f.cs 32)
 clear hd hf
 have HT := Lib.hid ht
 have e0 : (f.c.t == 0) = false := by simp [ht]
 have e1 : (f.c.t == 1) = true := by simp [ht]
 have HPL := Lib.hid (plan_1 ht)
 clear ht
 unfold Qf.cs at HK0 HL1 ⊢
 have HD1 := Lib.hid (HD.out.same HK0.out)
 go_enter Try.func25, Try.ntmps25
 go_upto_region 1 with fail
 refine wp_named ?_
 intro w1 hw1
 rw [hw1] at HK0 HL1 HD1
 have hs1 : w.heap.size ≤ w1.heap.size := HK0.out.size
 have HFR : Hid (¬ mine B a w.heap.size) := Lib.hid (HD.out.fresh (Nat.le_refl _))
 have HB1 : Hid (Below B w w1) := Lib.hid (Keeps.below (Below.refl B w) HK0.out hB (fun _ h => False.elim h))
 clear hw1
 generalize w.heap.size = fb at *
 have hB1 : B ≤ w1.heap.size := by omega
 have hx8 : IntKind.u64.wrap (f.n : Int) = (f.n : Int) := by rw [IntKind.wrap_u64]; omega
 have q8 : w1.cell? ⟨fb, 8, none⟩ = some (.slice f.a f.n f.cap) := HL1.out.cell 8
 have q0 : w1.cell? ⟨fb, 0, none⟩ = some (.int .u64 f.c.t) := HL1.out.cell 0
 have hcv : IntKind.u8.wrap f.c.t = ((byt f.c.t).toNat : Int) := by rw [IntKind.wrap_u8, byt_val]
 go_wp2_with (at_builtin; refine halt ?_)
 have hka : Keeps (fun _ => False) w1 (w1.alloc (.cells #[.int .u8 ((byt f.c.t).toNat : Int)] 5 (0, 0))) := (Keeps.refl _ _).alloc _
 refine Halted.go (wpList_bd _ rfl _ _ rfl B a n c xs rfl (HD1.out.same hka) _ 1 1 [byt f.c.t] rfl (By.new w1 [byt f.c.t] _ _ (by simp) rfl) (by omega) (Nat.le_trans hB1 hka.size) ?_)
 intro a9 c9 w9 hs9 hk9 hn9
 have HK9 := Lib.hid (HK0.out.to.trans (hka.to.trans hk9))
 have HN9 := Lib.hid (near_to (near_to hn9 hka.size) HK0.out.size)
 have HS9 := Lib.hid hs9
 have HE8 : Hid (encO xs f.c = some (xs ++ [byt f.c.t])) := Lib.hid (by rw [encO_plan (by rw [HT.out]; decide) HPL.out, HT.out, numsO_yes (by decide), thenO_some, List.append_nil]; rfl)
 clear hk9 hn9 hs9 hcv
 go_wp2_with fail
 go_returns
 refine ⟨HK9.out, ?_⟩
 rw [HE8.out]
 exact ⟨_, _, _, rfl, HS9.out, HN9.out⟩

set_option maxRecDepth 100000 in
set_option maxHeartbeats 3200000 in
theorem one_30 (B : Nat) (a : Option Addr) (n c : Nat) (xs : List UInt8) (f : Qf) (w : World) (hd : Sb B w a n c xs) (hf : ∀ w', Below B w w' → Qin w' f) (ht : f.c.t = 30) (hn : n ≤ 10000000) (hn8 : f.n ≤ 1000000) (hB : B ≤ w.heap.size) :
  Calls Try.prog 25 #[.slice a n c, .agg f.cs] w (OneP B a (encO xs f.c) w) := by
 have HD := Lib.hid hd
 have HF := Lib.hid hf
 have HWF := Lib.hid (hf w (Below.refl _ _)).wf
 have HXL := Lib.hid (hf w (Below.refl _ _)).b.1
 have HK0 : Hid (Keeps (fun _ => False) w (w.alloc (.cells f.cs 32 (0, 0)))) := Lib.hid ((Keeps.refl _ w).alloc _)
 have HL1 := Lib.hid (Blk.new w f.cs 32)
 clear hd hf
 have HT := Lib.hid ht
 have e0 : (f.c.t == 0) = false := by simp [ht]
 have e1 : (f.c.t == 1) = false := by simp [ht]
 have e30 : (f.c.t == 30) = true := by simp [ht]
 have HPL := Lib.hid (plan_30 ht)
 clear ht
 unfold Qf.cs at HK0 HL1 ⊢
 have HD1 := Lib.hid (HD.out.same HK0.out)
 go_enter Try.func25, Try.ntmps25
 go_upto_region 1 with fail
 refine wp_named ?_
 intro w1 hw1
 rw [hw1] at HK0 HL1 HD1
 have hs1 : w.heap.size ≤ w1.heap.size := HK0.out.size
 have HFR : Hid (¬ mine B a w.heap.size) := Lib.hid (HD.out.fresh (Nat.le_refl _))
 have HB1 : Hid (Below B w w1) := Lib.hid (Keeps.below (Below.refl B w) HK0.out hB (fun _ h => False.elim h))
 clear hw1
 generalize w.heap.size = fb at *
 have hB1 : B ≤ w1.heap.size := by omega
 have hx8 : IntKind.u64.wrap (f.n : Int) = (f.n : Int) := by rw [IntKind.wrap_u64]; omega
 have q8 : w1.cell? ⟨fb, 8, none⟩ = some (.slice f.a f.n f.cap) := HL1.out.cell 8
 have q0 : w1.cell? ⟨fb, 0, none⟩ = some (.int .u64 f.c.t) := HL1.out.cell 0
 have hcv : IntKind.u8.wrap f.c.t = ((byt f.c.t).toNat : Int) := by rw [IntKind.wrap_u8, byt_val]
 go_wp2_with (at_builtin; refine halt ?_)
 have hka : Keeps (fun _ => False) w1 (w1.alloc (.cells #[.int .u8 ((byt f.c.t).toNat : Int)] 5 (0, 0))) := (Keeps.refl _ _).alloc _
 refine Halted.go (wpList_bd _ rfl _ _ rfl B a n c xs rfl (HD1.out.same hka) _ 1 1 [byt f.c.t] rfl (By.new w1 [byt f.c.t] _ _ (by simp) rfl) (by omega) (Nat.le_trans hB1 hka.size) ?_)
 intro a9 c9 w9 hs9 hk9 hn9
 have HK9 := Lib.hid (HK0.out.to.trans (hka.to.trans hk9))
 have HN9 := Lib.hid (near_to (near_to hn9 hka.size) HK0.out.size)
 have HS9 := Lib.hid hs9
 have HE8 : Hid (encO xs f.c = some (xs ++ [byt f.c.t])) := Lib.hid (by rw [encO_plan (by rw [HT.out]; decide) HPL.out, HT.out, numsO_yes (by decide), thenO_some, List.append_nil]; rfl)
 clear hk9 hn9 hs9 hcv
 go_wp2_with fail
 go_returns
 refine ⟨HK9.out, ?_⟩
 rw [HE8.out]
 exact ⟨_, _, _, rfl, HS9.out, HN9.out⟩

set_option maxRecDepth 100000 in
set_option maxHeartbeats 3200000 in
theorem one_26 (B : Nat) (a : Option Addr) (n c : Nat) (xs : List UInt8) (f : Qf) (w : World) (hd : Sb B w a n c xs) (hf : ∀ w', Below B w w' → Qin w' f) (ht : f.c.t = 26) (hn : n ≤ 10000000) (hn8 : f.n ≤ 1000000) (hB : B ≤ w.heap.size) :
  Calls Try.prog 25 #[.slice a n c, .agg f.cs] w (OneP B a (encO xs f.c) w) := by
 have HD := Lib.hid hd
 have HF := Lib.hid hf
 have HWF := Lib.hid (hf w (Below.refl _ _)).wf
 have HXL := Lib.hid (hf w (Below.refl _ _)).b.1
 have HK0 : Hid (Keeps (fun _ => False) w (w.alloc (.cells f.cs 32 (0, 0)))) := Lib.hid ((Keeps.refl _ w).alloc _)
 have HL1 := Lib.hid (Blk.new w f.cs 32)
 clear hd hf
 have HT := Lib.hid ht
 have e0 : (f.c.t == 0) = false := by simp [ht]
 have e1 : (f.c.t == 1) = false := by simp [ht]
 have e30 : (f.c.t == 30) = false := by simp [ht]
 have e2 : (f.c.t == 2) = false := by simp [ht]
 have e4 : (f.c.t == 4) = false := by simp [ht]
 have e5 : (f.c.t == 5) = false := by simp [ht]
 have e6 : (f.c.t == 6) = false := by simp [ht]
 have e7 : (f.c.t == 7) = false := by simp [ht]
 have e8 : (f.c.t == 8) = false := by simp [ht]
 have e16 : (f.c.t == 16) = false := by simp [ht]
 have e20 : (f.c.t == 20) = false := by simp [ht]
 have e17 : (f.c.t == 17) = false := by simp [ht]
 have e21 : (f.c.t == 21) = false := by simp [ht]
 have e18 : (f.c.t == 18) = false := by simp [ht]
 have e22 : (f.c.t == 22) = false := by simp [ht]
 have e24 : (f.c.t == 24) = false := by simp [ht]
 have e25 : (f.c.t == 25) = false := by simp [ht]
 have e26 : (f.c.t == 26) = true := by simp [ht]
 have HPL := Lib.hid (plan_26 ht)
 clear ht
 unfold Qf.cs at HK0 HL1 ⊢
 have HD1 := Lib.hid (HD.out.same HK0.out)
 go_enter Try.func25, Try.ntmps25
 go_upto_region 1 with fail
 refine wp_named ?_
 intro w1 hw1
 rw [hw1] at HK0 HL1 HD1
 have hs1 : w.heap.size ≤ w1.heap.size := HK0.out.size
 have HFR : Hid (¬ mine B a w.heap.size) := Lib.hid (HD.out.fresh (Nat.le_refl _))
 have HB1 : Hid (Below B w w1) := Lib.hid (Keeps.below (Below.refl B w) HK0.out hB (fun _ h => False.elim h))
 clear hw1
 generalize w.heap.size = fb at *
 have hB1 : B ≤ w1.heap.size := by omega
 have hx8 : IntKind.u64.wrap (f.n : Int) = (f.n : Int) := by rw [IntKind.wrap_u64]; omega
 have q8 : w1.cell? ⟨fb, 8, none⟩ = some (.slice f.a f.n f.cap) := HL1.out.cell 8
 have q0 : w1.cell? ⟨fb, 0, none⟩ = some (.int .u64 f.c.t) := HL1.out.cell 0
 by_cases hm : f.c.xs.length = 8
 ·have hm8 : ((f.n : Int) == 8) = true := by have := HXL.out; simp; omega
  have hm9 : ((f.n : Int) != 8) = false := by have := HXL.out; simp; omega
  have HM := Lib.hid hm
  have HE8 : Hid (encO xs f.c = some (xs ++ [byt f.c.t] ++ f.c.xs)) := Lib.hid (by
   rw [encO_plan (by rw [HT.out]; decide) (by rw [HPL.out, if_pos HM.out]), HT.out, numsO_yes (by decide), thenO_some]; rfl)
  have hcv : IntKind.u8.wrap f.c.t = ((byt f.c.t).toNat : Int) := by rw [IntKind.wrap_u8, byt_val]
  clear hm
  go_wp2_with fail
  have HFR4 : ∀ {a3 : Option Addr}, Near B w1.drew a a3 → ¬ mine B a3 fb := fun hn h => by
   rcases hn fb h.2 with rfl | ⟨h1, _⟩
   ·exact HFR.out h
   ·have := HL1.out.lt
    have : w1.drew.heap.size = w1.heap.size := rfl
    omega
  have HKd : Hid (Keeps (fun _ => False) w1 w1.drew) := Lib.hid (Keeps.refl _ _).drew
  have HDd := Lib.hid (HD1.out.same HKd.out)
  have HLd := Lib.hid (HKd.out.blk HL1.out (fun h => h))
  have hBd : B ≤ w1.drew.heap.size := hB1
  refine wp_region_held (S := fun w' : World => w'.cell? ⟨fb, 0, none⟩ = some (.int .u64 f.c.t) ∧ w'.cell? ⟨fb, 8, none⟩ = some (.slice f.a f.n f.cap)) (by kernel_rfl) ?_
  change wpAnyH _ _ _ _ _ _ _ _ (World.drew _)
  have hS : (fun w' : World => w'.cell? ⟨fb, 0, none⟩ = some (.int .u64 f.c.t) ∧ w'.cell? ⟨fb, 8, none⟩ = some (.slice f.a f.n f.cap)) w1.drew := ⟨HLd.out.cell 0, HLd.out.cell 8⟩
  refine tH (i := 0) (v := ?_) rfl ?_ hS ?_
  rotate_left
  ·intro wz ⟨_, _⟩; go_simp; try with_reducible rfl
  refine tH (i := 1) (v := ?_) rfl ?_ hS ?_
  rotate_left
  ·intro wz ⟨_, _⟩; go_simp; try with_reducible rfl
  refine tH (i := 2) (v := ?_) rfl ?_ hS ?_
  rotate_left
  ·intro wz ⟨_, _⟩; go_simp; try with_reducible rfl
  refine tH (i := 3) (v := ?_) rfl ?_ hS ?_
  rotate_left
  ·intro wz ⟨_, _⟩; go_simp; try with_reducible rfl
  refine tH (i := 6) (v := ?_) rfl ?_ hS ?_
  rotate_left
  ·intro wz ⟨_, _⟩; go_simp; try with_reducible rfl
  refine tH (i := 7) (v := ?_) rfl ?_ hS ?_
  rotate_left
  ·intro wz ⟨_, _⟩; go_simp; try with_reducible rfl
  have hka : Keeps (fun _ => False) w1.drew (w1.drew.alloc (.cells #[.int .u8 ((byt f.c.t).toNat : Int)] 5 (0, 0))) := (Keeps.refl _ _).alloc _
  have hBa : B ≤ (w1.drew.alloc (.cells #[.int .u8 ((byt f.c.t).toNat : Int)] 5 (0, 0))).heap.size := Nat.le_trans hBd hka.size
  have hla := hka.blk HLd.out (fun h => h)
  refine held_do (i := 4) (.slice (some ⟨w1.heap.size, 0, none⟩) 1 1) (w1.drew.alloc (.cells #[.int .u8 ((byt f.c.t).toNat : Int)] 5 (0, 0))) rfl (by kernel_rfl) (by kernel_rfl) ?_ ⟨hla.cell 0, hla.cell 8⟩ ?_
  ·go_simp; try with_reducible rfl
  refine held_bd (i := 5) rfl (by kernel_rfl) (by kernel_rfl) (.tmp 223) (.tmp 227) rfl B a n c xs (by kernel_rfl) (HDd.out.same hka) _ 1 1 [byt f.c.t] (by kernel_rfl) (By.new w1.drew [byt f.c.t] _ _ (by simp) rfl) (by omega) hBa ?_
  intro a3 c3 w3 hs3 hk3 hn3
  have hl3 := hk3.blk hla (fun h => HFR.out h)
  refine ⟨⟨hl3.cell 0, hl3.cell 8⟩, ?_⟩
  have hB3 : B ≤ w3.heap.size := Nat.le_trans hBa hk3.size
  have HY := Lib.hid (HF.out w3 (Keeps.below (HB1.out.drew.alloc hBd _) hk3 hBa (fun k h => h.1))).b
  refine held_bd (i := 8) rfl (by kernel_rfl) (by kernel_rfl) (.tmp 228) (.tmp 230) rfl B a3 (n + 1) c3 (xs ++ [byt f.c.t]) (by kernel_rfl) hs3 f.a f.n f.cap f.c.xs (by kernel_rfl) HY.out (by omega) hB3 ?_
  intro a4 c4 w4 hs4 hk4 hn4
  have hl4 := hk4.blk hl3 (fun h => HFR4 (near_to hn3 hka.size) h)
  refine ⟨⟨hl4.cell 0, hl4.cell 8⟩, ?_⟩
  have HS9 := Lib.hid hs4
  have hkk : Keeps (mine B a) w1 w4 := HKd.out.to.trans (hka.to.trans (Keeps.step hk3 hn3 hk4))
  have hnn : Near B w1 a a4 := near_to (near_to (Near.step hn3 hk3 hn4) hka.size) HKd.out.size
  have HK9 : Hid (Keeps (mine B a) w w4) := Lib.hid (HK0.out.to.trans hkk)
  have HN9 : Hid (Near B w a a4) := Lib.hid (near_to hnn HK0.out.size)
  clear hS
  have hS : (fun w' : World => w'.cell? ⟨fb, 0, none⟩ = some (.int .u64 f.c.t) ∧ w'.cell? ⟨fb, 8, none⟩ = some (.slice f.a f.n f.cap)) w4 := ⟨hl4.cell 0, hl4.cell 8⟩
  refine tH (i := 9) (v := ?_) rfl ?_ hS ?_
  rotate_left
  ·intro wz ⟨_, _⟩; go_simp; try with_reducible rfl
  refine tH (i := 10) (v := ?_) rfl ?_ hS ?_
  rotate_left
  ·intro wz ⟨_, _⟩; go_simp; try with_reducible rfl
  refine wpAnyH_done (by kernel_rfl) ?_ _
  clear hS
  go_wp2_with fail
  refine bodyPost_ret (v := .tuple #[.slice a4 (n + 1 + f.n) c4, .bool true]) (by kernel_rfl) (by kernel_rfl) ?_
  refine ⟨HK9.out, ?_⟩
  rw [HE8.out]
  exact ⟨_, _, _, rfl, HS9.out, HN9.out⟩
 ·have hm8 : ((f.n : Int) == 8) = false := by have := HXL.out; simp; omega
  have hm9 : ((f.n : Int) != 8) = true := by have := HXL.out; simp; omega
  have HM := Lib.hid hm
  clear hm
  go_wp2_with fail
  go_returns
  refine ⟨HK0.out.to, ?_⟩
  rw [encO_no (by rw [HT.out]; decide) (by rw [HPL.out, if_neg HM.out])]
  rfl

set_option maxRecDepth 100000 in
set_option maxHeartbeats 3200000 in
theorem one_27 (B : Nat) (a : Option Addr) (n c : Nat) (xs : List UInt8) (f : Qf) (w : World) (hd : Sb B w a n c xs) (hf : ∀ w', Below B w w' → Qin w' f) (ht : f.c.t = 27) (hn : n ≤ 10000000) (hn8 : f.n ≤ 1000000) (hB : B ≤ w.heap.size) :
  Calls Try.prog 25 #[.slice a n c, .agg f.cs] w (OneP B a (encO xs f.c) w) := by
 have HD := Lib.hid hd
 have HF := Lib.hid hf
 have HWF := Lib.hid (hf w (Below.refl _ _)).wf
 have HXL := Lib.hid (hf w (Below.refl _ _)).b.1
 have HK0 : Hid (Keeps (fun _ => False) w (w.alloc (.cells f.cs 32 (0, 0)))) := Lib.hid ((Keeps.refl _ w).alloc _)
 have HL1 := Lib.hid (Blk.new w f.cs 32)
 clear hd hf
 have HT := Lib.hid ht
 have e0 : (f.c.t == 0) = false := by simp [ht]
 have e1 : (f.c.t == 1) = false := by simp [ht]
 have e30 : (f.c.t == 30) = false := by simp [ht]
 have e2 : (f.c.t == 2) = false := by simp [ht]
 have e4 : (f.c.t == 4) = false := by simp [ht]
 have e5 : (f.c.t == 5) = false := by simp [ht]
 have e6 : (f.c.t == 6) = false := by simp [ht]
 have e7 : (f.c.t == 7) = false := by simp [ht]
 have e8 : (f.c.t == 8) = false := by simp [ht]
 have e16 : (f.c.t == 16) = false := by simp [ht]
 have e20 : (f.c.t == 20) = false := by simp [ht]
 have e17 : (f.c.t == 17) = false := by simp [ht]
 have e21 : (f.c.t == 21) = false := by simp [ht]
 have e18 : (f.c.t == 18) = false := by simp [ht]
 have e22 : (f.c.t == 22) = false := by simp [ht]
 have e24 : (f.c.t == 24) = false := by simp [ht]
 have e25 : (f.c.t == 25) = false := by simp [ht]
 have e26 : (f.c.t == 26) = false := by simp [ht]
 have e27 : (f.c.t == 27) = true := by simp [ht]
 have HPL := Lib.hid (plan_27 ht)
 clear ht
 unfold Qf.cs at HK0 HL1 ⊢
 have HD1 := Lib.hid (HD.out.same HK0.out)
 go_enter Try.func25, Try.ntmps25
 go_upto_region 1 with fail
 refine wp_named ?_
 intro w1 hw1
 rw [hw1] at HK0 HL1 HD1
 have hs1 : w.heap.size ≤ w1.heap.size := HK0.out.size
 have HFR : Hid (¬ mine B a w.heap.size) := Lib.hid (HD.out.fresh (Nat.le_refl _))
 have HB1 : Hid (Below B w w1) := Lib.hid (Keeps.below (Below.refl B w) HK0.out hB (fun _ h => False.elim h))
 clear hw1
 generalize w.heap.size = fb at *
 have hB1 : B ≤ w1.heap.size := by omega
 have hx8 : IntKind.u64.wrap (f.n : Int) = (f.n : Int) := by rw [IntKind.wrap_u64]; omega
 have q8 : w1.cell? ⟨fb, 8, none⟩ = some (.slice f.a f.n f.cap) := HL1.out.cell 8
 have q0 : w1.cell? ⟨fb, 0, none⟩ = some (.int .u64 f.c.t) := HL1.out.cell 0
 by_cases hm : f.c.xs.length = 8
 ·have hm8 : ((f.n : Int) == 8) = true := by have := HXL.out; simp; omega
  have hm9 : ((f.n : Int) != 8) = false := by have := HXL.out; simp; omega
  have HM := Lib.hid hm
  have HE8 : Hid (encO xs f.c = some (xs ++ [byt f.c.t] ++ f.c.xs)) := Lib.hid (by
   rw [encO_plan (by rw [HT.out]; decide) (by rw [HPL.out, if_pos HM.out]), HT.out, numsO_yes (by decide), thenO_some]; rfl)
  have hcv : IntKind.u8.wrap f.c.t = ((byt f.c.t).toNat : Int) := by rw [IntKind.wrap_u8, byt_val]
  clear hm
  go_wp2_with fail
  have HFR4 : ∀ {a3 : Option Addr}, Near B w1.drew a a3 → ¬ mine B a3 fb := fun hn h => by
   rcases hn fb h.2 with rfl | ⟨h1, _⟩
   ·exact HFR.out h
   ·have := HL1.out.lt
    have : w1.drew.heap.size = w1.heap.size := rfl
    omega
  have HKd : Hid (Keeps (fun _ => False) w1 w1.drew) := Lib.hid (Keeps.refl _ _).drew
  have HDd := Lib.hid (HD1.out.same HKd.out)
  have HLd := Lib.hid (HKd.out.blk HL1.out (fun h => h))
  have hBd : B ≤ w1.drew.heap.size := hB1
  refine wp_region_held (S := fun w' : World => w'.cell? ⟨fb, 0, none⟩ = some (.int .u64 f.c.t) ∧ w'.cell? ⟨fb, 8, none⟩ = some (.slice f.a f.n f.cap)) (by kernel_rfl) ?_
  change wpAnyH _ _ _ _ _ _ _ _ (World.drew _)
  have hS : (fun w' : World => w'.cell? ⟨fb, 0, none⟩ = some (.int .u64 f.c.t) ∧ w'.cell? ⟨fb, 8, none⟩ = some (.slice f.a f.n f.cap)) w1.drew := ⟨HLd.out.cell 0, HLd.out.cell 8⟩
  refine tH (i := 0) (v := ?_) rfl ?_ hS ?_
  rotate_left
  ·intro wz ⟨_, _⟩; go_simp; try with_reducible rfl
  refine tH (i := 1) (v := ?_) rfl ?_ hS ?_
  rotate_left
  ·intro wz ⟨_, _⟩; go_simp; try with_reducible rfl
  refine tH (i := 2) (v := ?_) rfl ?_ hS ?_
  rotate_left
  ·intro wz ⟨_, _⟩; go_simp; try with_reducible rfl
  refine tH (i := 3) (v := ?_) rfl ?_ hS ?_
  rotate_left
  ·intro wz ⟨_, _⟩; go_simp; try with_reducible rfl
  refine tH (i := 6) (v := ?_) rfl ?_ hS ?_
  rotate_left
  ·intro wz ⟨_, _⟩; go_simp; try with_reducible rfl
  refine tH (i := 7) (v := ?_) rfl ?_ hS ?_
  rotate_left
  ·intro wz ⟨_, _⟩; go_simp; try with_reducible rfl
  have hka : Keeps (fun _ => False) w1.drew (w1.drew.alloc (.cells #[.int .u8 ((byt f.c.t).toNat : Int)] 5 (0, 0))) := (Keeps.refl _ _).alloc _
  have hBa : B ≤ (w1.drew.alloc (.cells #[.int .u8 ((byt f.c.t).toNat : Int)] 5 (0, 0))).heap.size := Nat.le_trans hBd hka.size
  have hla := hka.blk HLd.out (fun h => h)
  refine held_do (i := 4) (.slice (some ⟨w1.heap.size, 0, none⟩) 1 1) (w1.drew.alloc (.cells #[.int .u8 ((byt f.c.t).toNat : Int)] 5 (0, 0))) rfl (by kernel_rfl) (by kernel_rfl) ?_ ⟨hla.cell 0, hla.cell 8⟩ ?_
  ·go_simp; try with_reducible rfl
  refine held_bd (i := 5) rfl (by kernel_rfl) (by kernel_rfl) (.tmp 223) (.tmp 227) rfl B a n c xs (by kernel_rfl) (HDd.out.same hka) _ 1 1 [byt f.c.t] (by kernel_rfl) (By.new w1.drew [byt f.c.t] _ _ (by simp) rfl) (by omega) hBa ?_
  intro a3 c3 w3 hs3 hk3 hn3
  have hl3 := hk3.blk hla (fun h => HFR.out h)
  refine ⟨⟨hl3.cell 0, hl3.cell 8⟩, ?_⟩
  have hB3 : B ≤ w3.heap.size := Nat.le_trans hBa hk3.size
  have HY := Lib.hid (HF.out w3 (Keeps.below (HB1.out.drew.alloc hBd _) hk3 hBa (fun k h => h.1))).b
  refine held_bd (i := 8) rfl (by kernel_rfl) (by kernel_rfl) (.tmp 228) (.tmp 230) rfl B a3 (n + 1) c3 (xs ++ [byt f.c.t]) (by kernel_rfl) hs3 f.a f.n f.cap f.c.xs (by kernel_rfl) HY.out (by omega) hB3 ?_
  intro a4 c4 w4 hs4 hk4 hn4
  have hl4 := hk4.blk hl3 (fun h => HFR4 (near_to hn3 hka.size) h)
  refine ⟨⟨hl4.cell 0, hl4.cell 8⟩, ?_⟩
  have HS9 := Lib.hid hs4
  have hkk : Keeps (mine B a) w1 w4 := HKd.out.to.trans (hka.to.trans (Keeps.step hk3 hn3 hk4))
  have hnn : Near B w1 a a4 := near_to (near_to (Near.step hn3 hk3 hn4) hka.size) HKd.out.size
  have HK9 : Hid (Keeps (mine B a) w w4) := Lib.hid (HK0.out.to.trans hkk)
  have HN9 : Hid (Near B w a a4) := Lib.hid (near_to hnn HK0.out.size)
  clear hS
  have hS : (fun w' : World => w'.cell? ⟨fb, 0, none⟩ = some (.int .u64 f.c.t) ∧ w'.cell? ⟨fb, 8, none⟩ = some (.slice f.a f.n f.cap)) w4 := ⟨hl4.cell 0, hl4.cell 8⟩
  refine tH (i := 9) (v := ?_) rfl ?_ hS ?_
  rotate_left
  ·intro wz ⟨_, _⟩; go_simp; try with_reducible rfl
  refine tH (i := 10) (v := ?_) rfl ?_ hS ?_
  rotate_left
  ·intro wz ⟨_, _⟩; go_simp; try with_reducible rfl
  refine wpAnyH_done (by kernel_rfl) ?_ _
  clear hS
  go_wp2_with fail
  refine bodyPost_ret (v := .tuple #[.slice a4 (n + 1 + f.n) c4, .bool true]) (by kernel_rfl) (by kernel_rfl) ?_
  refine ⟨HK9.out, ?_⟩
  rw [HE8.out]
  exact ⟨_, _, _, rfl, HS9.out, HN9.out⟩
 ·have hm8 : ((f.n : Int) == 8) = false := by have := HXL.out; simp; omega
  have hm9 : ((f.n : Int) != 8) = true := by have := HXL.out; simp; omega
  have HM := Lib.hid hm
  clear hm
  go_wp2_with fail
  go_returns
  refine ⟨HK0.out.to, ?_⟩
  rw [encO_no (by rw [HT.out]; decide) (by rw [HPL.out, if_neg HM.out])]
  rfl

set_option maxRecDepth 100000 in
set_option maxHeartbeats 3200000 in
theorem one_6 (B : Nat) (a : Option Addr) (n c : Nat) (xs : List UInt8) (f : Qf) (w : World) (hd : Sb B w a n c xs) (hf : ∀ w', Below B w w' → Qin w' f) (ht : f.c.t = 6) (hn : n ≤ 10000000) (hn8 : f.n ≤ 1000000) (hB : B ≤ w.heap.size) :
  Calls Try.prog 25 #[.slice a n c, .agg f.cs] w (OneP B a (encO xs f.c) w) := by
 have HD := Lib.hid hd
 have HF := Lib.hid hf
 have HWF := Lib.hid (hf w (Below.refl _ _)).wf
 have HXL := Lib.hid (hf w (Below.refl _ _)).b.1
 have HK0 : Hid (Keeps (fun _ => False) w (w.alloc (.cells f.cs 32 (0, 0)))) := Lib.hid ((Keeps.refl _ w).alloc _)
 have HL1 := Lib.hid (Blk.new w f.cs 32)
 clear hd hf
 have HT := Lib.hid ht
 have e0 : (f.c.t == 0) = false := by simp [ht]
 have e1 : (f.c.t == 1) = false := by simp [ht]
 have e30 : (f.c.t == 30) = false := by simp [ht]
 have e2 : (f.c.t == 2) = false := by simp [ht]
 have e4 : (f.c.t == 4) = false := by simp [ht]
 have e5 : (f.c.t == 5) = false := by simp [ht]
 have e6 : (f.c.t == 6) = true := by simp [ht]
 have HPL := Lib.hid (plan_6 ht)
 clear ht
 unfold Qf.cs at HK0 HL1 ⊢
 have HD1 := Lib.hid (HD.out.same HK0.out)
 go_enter Try.func25, Try.ntmps25
 go_upto_region 1 with fail
 refine wp_named ?_
 intro w1 hw1
 rw [hw1] at HK0 HL1 HD1
 have hs1 : w.heap.size ≤ w1.heap.size := HK0.out.size
 have HFR : Hid (¬ mine B a w.heap.size) := Lib.hid (HD.out.fresh (Nat.le_refl _))
 have HB1 : Hid (Below B w w1) := Lib.hid (Keeps.below (Below.refl B w) HK0.out hB (fun _ h => False.elim h))
 clear hw1
 generalize w.heap.size = fb at *
 have hB1 : B ≤ w1.heap.size := by omega
 have hx8 : IntKind.u64.wrap (f.n : Int) = (f.n : Int) := by rw [IntKind.wrap_u64]; omega
 have q8 : w1.cell? ⟨fb, 8, none⟩ = some (.slice f.a f.n f.cap) := HL1.out.cell 8
 have q0 : w1.cell? ⟨fb, 0, none⟩ = some (.int .u64 f.c.t) := HL1.out.cell 0
 have q2 : w1.cell? ⟨fb, 2, none⟩ = some (.int .u64 f.c.off) := HL1.out.cell 2
 by_cases h1 : f.c.off ≤ 4611686018427387903
 ·have d1 : decide ((4611686018427387903 : Int) < f.c.off) = false := by simp; omega
  have hwr : IntKind.u64.wrap (f.c.off + (f.n : Int)) = f.c.off + (f.n : Int) := by have := HWF.out.off.1; rw [IntKind.wrap_u64]; omega
  by_cases h2 : f.c.off + (f.n : Int) ≤ 4611686018427387903
  ·have d2 : decide ((4611686018427387903 : Int) < f.c.off + (f.n : Int)) = false := by simp; omega
   have HEN : Hid (endB f.c.off f.n = true) := Lib.hid (by unfold endB; simp; omega)
   have HV : Hid (varsOK [f.c.t, f.c.off, (f.n : Int)] = true) := Lib.hid (by simp [varsOK, HT.out]; omega)
   have HE8 : Hid (encO xs f.c = some (xs ++ varsE [f.c.t, f.c.off, (f.n : Int)] ++ f.c.xs)) := Lib.hid (by
    rw [encO_plan (by rw [HT.out]; decide) (l := [f.c.t, f.c.off, (f.n : Int)]) (tl := f.c.xs) (by rw [HPL.out, ← HXL.out, HEN.out, if_pos rfl, HT.out]), numsO_yes HV.out, thenO_some])
   clear h1 h2
   go_wp2_with fail
   clear q0 q2 q8 d1 d2 hwr
   have HFRd : Hid (¬ mine B a fb) := HFR
   have HFR3 : ∀ {a3 : Option Addr}, Near B w1.drew a a3 → ¬ mine B a3 fb := fun hn h => by
    rcases hn fb h.2 with rfl | ⟨h1, _⟩
    ·exact HFR.out h
    ·have := HL1.out.lt
     have : w1.drew.heap.size = w1.heap.size := rfl
     omega
   have HKd : Hid (Keeps (fun _ => False) w1 w1.drew) := Lib.hid (Keeps.refl _ _).drew
   have HDd := Lib.hid (HD1.out.same HKd.out)
   have HLd := Lib.hid (HKd.out.blk HL1.out (fun h => h))
   have hBd : B ≤ w1.drew.heap.size := hB1
   refine wp_region_held (S := fun w' : World => w'.cell? ⟨fb, 0, none⟩ = some (.int .u64 f.c.t) ∧ w'.cell? ⟨fb, 2, none⟩ = some (.int .u64 f.c.off) ∧ w'.cell? ⟨fb, 8, none⟩ = some (.slice f.a f.n f.cap)) (by kernel_rfl) ?_
   change wpAnyH _ _ _ _ _ _ _ _ (World.drew _)
   have hS : (fun w' : World => w'.cell? ⟨fb, 0, none⟩ = some (.int .u64 f.c.t) ∧ w'.cell? ⟨fb, 2, none⟩ = some (.int .u64 f.c.off) ∧ w'.cell? ⟨fb, 8, none⟩ = some (.slice f.a f.n f.cap)) w1.drew := ⟨HLd.out.cell 0, HLd.out.cell 2, HLd.out.cell 8⟩
   refine tH (i := 0) (v := ?_) rfl ?_ hS ?_
   rotate_left
   ·intro wz ⟨_, _, _⟩; go_simp; try with_reducible rfl
   refine tH (i := 1) (v := ?_) rfl ?_ hS ?_
   rotate_left
   ·intro wz ⟨_, _, _⟩; go_simp; try with_reducible rfl
   refine tH (i := 2) (v := ?_) rfl ?_ hS ?_
   rotate_left
   ·intro wz ⟨_, _, _⟩; go_simp; try with_reducible rfl
   refine tH (i := 3) (v := ?_) rfl ?_ hS ?_
   rotate_left
   ·intro wz ⟨_, _, _⟩; go_simp; try with_reducible rfl
   refine tH (i := 4) (v := ?_) rfl ?_ hS ?_
   rotate_left
   ·intro wz ⟨_, _, _⟩; go_simp; try with_reducible rfl
   refine tH (i := 5) (v := ?_) rfl ?_ hS ?_
   rotate_left
   ·intro wz ⟨_, _, _⟩; go_simp; try with_reducible rfl
   refine tH (i := 8) (v := ?_) rfl ?_ hS ?_
   rotate_left
   ·intro wz ⟨_, _, _⟩; go_simp; try with_reducible rfl
   refine tH (i := 9) (v := ?_) rfl ?_ hS ?_
   rotate_left
   ·intro wz ⟨_, _, _⟩; go_simp; try with_reducible rfl
   have hka : Keeps (fun _ => False) w1.drew (w1.drew.alloc (.cells #[.int .u64 f.c.t, .int .u64 f.c.off, .int .u64 ((f.n : Int))] 29 (0, 0))) := (Keeps.refl _ _).alloc _
   refine held_do (i := 6) (.slice (some ⟨w1.heap.size, 0, none⟩) 3 3) (w1.drew.alloc (.cells #[.int .u64 f.c.t, .int .u64 f.c.off, .int .u64 ((f.n : Int))] 29 (0, 0))) rfl (by kernel_rfl) (by kernel_rfl) ?_ ⟨(hka.blk HLd.out (fun h => h)).cell 0, (hka.blk HLd.out (fun h => h)).cell 2, (hka.blk HLd.out (fun h => h)).cell 8⟩ ?_
   ·go_simp; try with_reducible rfl
   refine held_call (i := 7) 44 #[.slice a n c, .slice (some ⟨w1.heap.size, 0, none⟩) 3 3] rfl (by kernel_rfl) (by kernel_rfl) ?_ ?_
   ·go_simp; try with_reducible rfl
   refine (put_new B a n c xs #[.int .u64 f.c.t, .int .u64 f.c.off, .int .u64 ((f.n : Int))] 3 [f.c.t, f.c.off, (f.n : Int)] w1.drew HDd.out (Uv.three w1.drew 29 f.c.t f.c.off ((f.n : Int)) HWF.out.t HWF.out.off ⟨by omega, by omega⟩) (by simp) HV.out (by omega) (by omega) hBd).mono ?_
   rintro e w3 ⟨hk3, a3, n3, c3, rfl, hs3, hn3⟩
   have hl3 := hk3.blk HLd.out (fun h => HFRd.out h)
   have hB3 : B ≤ w3.heap.size := Nat.le_trans hBd hk3.size
   have hln3 : n3 ≤ n + 24 := by
    have h1 := hs3.1.1
    have h2 := HD1.out.1.1
    have h3 := numsO_len (numsO_yes (xs := xs) HV.out)
    simp only [List.length_cons, List.length_nil] at h3
    omega
   have HY := Lib.hid (HF.out w3 (Keeps.below HB1.out.drew hk3 hBd (fun k h => h.1))).b
   refine ⟨_, rfl, ⟨hl3.cell 0, hl3.cell 2, hl3.cell 8⟩, ?_⟩
   clear hS
   have hS : (fun w' : World => w'.cell? ⟨fb, 0, none⟩ = some (.int .u64 f.c.t) ∧ w'.cell? ⟨fb, 2, none⟩ = some (.int .u64 f.c.off) ∧ w'.cell? ⟨fb, 8, none⟩ = some (.slice f.a f.n f.cap)) w3 := ⟨hl3.cell 0, hl3.cell 2, hl3.cell 8⟩
   refine held_bd (i := 10) rfl (by kernel_rfl) (by kernel_rfl) (.tmp 77) (.tmp 79) rfl B a3 n3 c3 (xs ++ varsE [f.c.t, f.c.off, (f.n : Int)]) (by kernel_rfl) hs3 f.a f.n f.cap f.c.xs (by kernel_rfl) HY.out (by omega) hB3 ?_
   intro a4 c4 w4 hs4 hk4 hn4
   have hl4 := hk4.blk hl3 (fun h => HFR3 hn3 h)
   refine ⟨⟨hl4.cell 0, hl4.cell 2, hl4.cell 8⟩, ?_⟩
   have HS9 := Lib.hid hs4
   have HK9 : Hid (Keeps (mine B a) w w4) := Lib.hid (HK0.out.to.trans (HKd.out.to.trans (Keeps.step hk3 hn3 hk4)))
   have HN9 : Hid (Near B w a a4) := Lib.hid (near_to (near_to (Near.step hn3 hk3 hn4) HKd.out.size) HK0.out.size)
   clear hS
   have hS : (fun w' : World => w'.cell? ⟨fb, 0, none⟩ = some (.int .u64 f.c.t) ∧ w'.cell? ⟨fb, 2, none⟩ = some (.int .u64 f.c.off) ∧ w'.cell? ⟨fb, 8, none⟩ = some (.slice f.a f.n f.cap)) w4 := ⟨hl4.cell 0, hl4.cell 2, hl4.cell 8⟩
   refine tH (i := 11) (v := ?_) rfl ?_ hS ?_
   rotate_left
   ·intro wz ⟨_, _, _⟩; go_simp; try with_reducible rfl
   refine tH (i := 12) (v := ?_) rfl ?_ hS ?_
   rotate_left
   ·intro wz ⟨_, _, _⟩; go_simp; try with_reducible rfl
   refine wpAnyH_done (by kernel_rfl) ?_ _
   clear hS
   go_wp2_with fail
   refine bodyPost_ret (v := .tuple #[.slice a4 (n3 + f.n) c4, .bool true]) (by kernel_rfl) (by kernel_rfl) ?_
   refine ⟨HK9.out, ?_⟩
   rw [HE8.out]
   exact ⟨_, _, _, rfl, HS9.out, HN9.out⟩
  ·have d2 : decide ((4611686018427387903 : Int) < f.c.off + (f.n : Int)) = true := by simp; omega
   have HEN : Hid (endB f.c.off f.n = false) := Lib.hid (by unfold endB; simp; omega)
   clear h1 h2
   go_wp2_with fail
   go_returns
   refine ⟨HK0.out.to, ?_⟩
   rw [encO_no (by rw [HT.out]; decide) (by rw [HPL.out, ← HXL.out, HEN.out]; rfl)]
   rfl
 ·have d1 : decide ((4611686018427387903 : Int) < f.c.off) = true := by simp; omega
  have HEN : Hid (endB f.c.off f.n = false) := Lib.hid (by unfold endB; simp; omega)
  clear h1
  go_wp2_with fail
  go_returns
  refine ⟨HK0.out.to, ?_⟩
  rw [encO_no (by rw [HT.out]; decide) (by rw [HPL.out, ← HXL.out, HEN.out]; rfl)]
  rfl

set_option maxRecDepth 100000 in
set_option maxHeartbeats 3200000 in
theorem one_7 (B : Nat) (a : Option Addr) (n c : Nat) (xs : List UInt8) (f : Qf) (w : World) (hd : Sb B w a n c xs) (hf : ∀ w', Below B w w' → Qin w' f) (ht : f.c.t = 7) (hn : n ≤ 10000000) (hn8 : f.n ≤ 1000000) (hB : B ≤ w.heap.size) :
  Calls Try.prog 25 #[.slice a n c, .agg f.cs] w (OneP B a (encO xs f.c) w) := by
 have HD := Lib.hid hd
 have HF := Lib.hid hf
 have HWF := Lib.hid (hf w (Below.refl _ _)).wf
 have HXL := Lib.hid (hf w (Below.refl _ _)).b.1
 have HK0 : Hid (Keeps (fun _ => False) w (w.alloc (.cells f.cs 32 (0, 0)))) := Lib.hid ((Keeps.refl _ w).alloc _)
 have HL1 := Lib.hid (Blk.new w f.cs 32)
 clear hd hf
 have HT := Lib.hid ht
 have e0 : (f.c.t == 0) = false := by simp [ht]
 have e1 : (f.c.t == 1) = false := by simp [ht]
 have e30 : (f.c.t == 30) = false := by simp [ht]
 have e2 : (f.c.t == 2) = false := by simp [ht]
 have e4 : (f.c.t == 4) = false := by simp [ht]
 have e5 : (f.c.t == 5) = false := by simp [ht]
 have e6 : (f.c.t == 6) = false := by simp [ht]
 have e7 : (f.c.t == 7) = true := by simp [ht]
 have HPL := Lib.hid (plan_7 ht)
 clear ht
 unfold Qf.cs at HK0 HL1 ⊢
 have HD1 := Lib.hid (HD.out.same HK0.out)
 go_enter Try.func25, Try.ntmps25
 go_upto_region 1 with fail
 refine wp_named ?_
 intro w1 hw1
 rw [hw1] at HK0 HL1 HD1
 have hs1 : w.heap.size ≤ w1.heap.size := HK0.out.size
 have HFR : Hid (¬ mine B a w.heap.size) := Lib.hid (HD.out.fresh (Nat.le_refl _))
 have HB1 : Hid (Below B w w1) := Lib.hid (Keeps.below (Below.refl B w) HK0.out hB (fun _ h => False.elim h))
 clear hw1
 generalize w.heap.size = fb at *
 have hB1 : B ≤ w1.heap.size := by omega
 have hx8 : IntKind.u64.wrap (f.n : Int) = (f.n : Int) := by rw [IntKind.wrap_u64]; omega
 have q8 : w1.cell? ⟨fb, 8, none⟩ = some (.slice f.a f.n f.cap) := HL1.out.cell 8
 have q0 : w1.cell? ⟨fb, 0, none⟩ = some (.int .u64 f.c.t) := HL1.out.cell 0
 by_cases hm : f.n = 0
 ·have d1 : ((f.n : Int) == 0) = true := by simp; omega
  have HM := Lib.hid hm
  clear hm
  go_wp2_with fail
  go_returns
  refine ⟨HK0.out.to, ?_⟩
  rw [encO_no (by rw [HT.out]; decide) (by rw [HPL.out, ← HXL.out, if_neg (by have := HM.out; omega)])]
  rfl
 ·have d1 : ((f.n : Int) == 0) = false := by simp; omega
  have HM := Lib.hid hm
  have HV : Hid (varsOK [f.c.t, (f.n : Int)] = true) := Lib.hid (by simp [varsOK, HT.out]; omega)
  have HE8 : Hid (encO xs f.c = some (xs ++ varsE [f.c.t, (f.n : Int)] ++ f.c.xs)) := Lib.hid (by
   rw [encO_plan (by rw [HT.out]; decide) (l := [f.c.t, (f.n : Int)]) (tl := f.c.xs) (by rw [HPL.out, ← HXL.out, if_pos (by have := HM.out; omega), HT.out]), numsO_yes HV.out, thenO_some])
  clear hm
  go_wp2_with fail
  clear q0 q8 d1
  have HFRd : Hid (¬ mine B a fb) := HFR
  have HFR3 : ∀ {a3 : Option Addr}, Near B w1.drew a a3 → ¬ mine B a3 fb := fun hn h => by
   rcases hn fb h.2 with rfl | ⟨h1, _⟩
   ·exact HFR.out h
   ·have := HL1.out.lt
    have : w1.drew.heap.size = w1.heap.size := rfl
    omega
  have HKd : Hid (Keeps (fun _ => False) w1 w1.drew) := Lib.hid (Keeps.refl _ _).drew
  have HDd := Lib.hid (HD1.out.same HKd.out)
  have HLd := Lib.hid (HKd.out.blk HL1.out (fun h => h))
  have hBd : B ≤ w1.drew.heap.size := hB1
  refine wp_region_held (S := fun w' : World => w'.cell? ⟨fb, 0, none⟩ = some (.int .u64 f.c.t) ∧ w'.cell? ⟨fb, 8, none⟩ = some (.slice f.a f.n f.cap)) (by kernel_rfl) ?_
  change wpAnyH _ _ _ _ _ _ _ _ (World.drew _)
  have hS : (fun w' : World => w'.cell? ⟨fb, 0, none⟩ = some (.int .u64 f.c.t) ∧ w'.cell? ⟨fb, 8, none⟩ = some (.slice f.a f.n f.cap)) w1.drew := ⟨HLd.out.cell 0, HLd.out.cell 8⟩
  refine tH (i := 0) (v := ?_) rfl ?_ hS ?_
  rotate_left
  ·intro wz ⟨_, _⟩; go_simp; try with_reducible rfl
  refine tH (i := 1) (v := ?_) rfl ?_ hS ?_
  rotate_left
  ·intro wz ⟨_, _⟩; go_simp; try with_reducible rfl
  refine tH (i := 2) (v := ?_) rfl ?_ hS ?_
  rotate_left
  ·intro wz ⟨_, _⟩; go_simp; try with_reducible rfl
  refine tH (i := 3) (v := ?_) rfl ?_ hS ?_
  rotate_left
  ·intro wz ⟨_, _⟩; go_simp; try with_reducible rfl
  refine tH (i := 6) (v := ?_) rfl ?_ hS ?_
  rotate_left
  ·intro wz ⟨_, _⟩; go_simp; try with_reducible rfl
  refine tH (i := 7) (v := ?_) rfl ?_ hS ?_
  rotate_left
  ·intro wz ⟨_, _⟩; go_simp; try with_reducible rfl
  have hka : Keeps (fun _ => False) w1.drew (w1.drew.alloc (.cells #[.int .u64 f.c.t, .int .u64 ((f.n : Int))] 29 (0, 0))) := (Keeps.refl _ _).alloc _
  refine held_do (i := 4) (.slice (some ⟨w1.heap.size, 0, none⟩) 2 2) (w1.drew.alloc (.cells #[.int .u64 f.c.t, .int .u64 ((f.n : Int))] 29 (0, 0))) rfl (by kernel_rfl) (by kernel_rfl) ?_ ⟨(hka.blk HLd.out (fun h => h)).cell 0, (hka.blk HLd.out (fun h => h)).cell 8⟩ ?_
  ·go_simp; try with_reducible rfl
  refine held_call (i := 5) 44 #[.slice a n c, .slice (some ⟨w1.heap.size, 0, none⟩) 2 2] rfl (by kernel_rfl) (by kernel_rfl) ?_ ?_
  ·go_simp; try with_reducible rfl
  refine (put_new B a n c xs #[.int .u64 f.c.t, .int .u64 ((f.n : Int))] 2 [f.c.t, (f.n : Int)] w1.drew HDd.out (Uv.two' w1.drew 29 f.c.t ((f.n : Int)) HWF.out.t ⟨by omega, by omega⟩) (by simp) HV.out (by omega) (by omega) hBd).mono ?_
  rintro e w3 ⟨hk3, a3, n3, c3, rfl, hs3, hn3⟩
  have hl3 := hk3.blk HLd.out (fun h => HFRd.out h)
  have hB3 : B ≤ w3.heap.size := Nat.le_trans hBd hk3.size
  have hln3 : n3 ≤ n + 16 := by
   have h1 := hs3.1.1
   have h2 := HD1.out.1.1
   have h3 := numsO_len (numsO_yes (xs := xs) HV.out)
   simp only [List.length_cons, List.length_nil] at h3
   omega
  have HY := Lib.hid (HF.out w3 (Keeps.below HB1.out.drew hk3 hBd (fun k h => h.1))).b
  refine ⟨_, rfl, ⟨hl3.cell 0, hl3.cell 8⟩, ?_⟩
  clear hS
  have hS : (fun w' : World => w'.cell? ⟨fb, 0, none⟩ = some (.int .u64 f.c.t) ∧ w'.cell? ⟨fb, 8, none⟩ = some (.slice f.a f.n f.cap)) w3 := ⟨hl3.cell 0, hl3.cell 8⟩
  refine held_bd (i := 8) rfl (by kernel_rfl) (by kernel_rfl) (.tmp 90) (.tmp 92) rfl B a3 n3 c3 (xs ++ varsE [f.c.t, (f.n : Int)]) (by kernel_rfl) hs3 f.a f.n f.cap f.c.xs (by kernel_rfl) HY.out (by omega) hB3 ?_
  intro a4 c4 w4 hs4 hk4 hn4
  have hl4 := hk4.blk hl3 (fun h => HFR3 hn3 h)
  refine ⟨⟨hl4.cell 0, hl4.cell 8⟩, ?_⟩
  have HS9 := Lib.hid hs4
  have HK9 : Hid (Keeps (mine B a) w w4) := Lib.hid (HK0.out.to.trans (HKd.out.to.trans (Keeps.step hk3 hn3 hk4)))
  have HN9 : Hid (Near B w a a4) := Lib.hid (near_to (near_to (Near.step hn3 hk3 hn4) HKd.out.size) HK0.out.size)
  clear hS
  have hS : (fun w' : World => w'.cell? ⟨fb, 0, none⟩ = some (.int .u64 f.c.t) ∧ w'.cell? ⟨fb, 8, none⟩ = some (.slice f.a f.n f.cap)) w4 := ⟨hl4.cell 0, hl4.cell 8⟩
  refine tH (i := 9) (v := ?_) rfl ?_ hS ?_
  rotate_left
  ·intro wz ⟨_, _⟩; go_simp; try with_reducible rfl
  refine tH (i := 10) (v := ?_) rfl ?_ hS ?_
  rotate_left
  ·intro wz ⟨_, _⟩; go_simp; try with_reducible rfl
  refine wpAnyH_done (by kernel_rfl) ?_ _
  clear hS
  go_wp2_with fail
  refine bodyPost_ret (v := .tuple #[.slice a4 (n3 + f.n) c4, .bool true]) (by kernel_rfl) (by kernel_rfl) ?_
  refine ⟨HK9.out, ?_⟩
  rw [HE8.out]
  exact ⟨_, _, _, rfl, HS9.out, HN9.out⟩

end Go.Proofs.Ytgfkgmmigbpciaa
