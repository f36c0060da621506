/- The writer of the package qframe: other, the rest. -/
import Derived.Test.YtgfkgmmigbpciaaQfE
namespace Go.Proofs.Ytgfkgmmigbpciaa
set_option linter.unusedSimpArgs false
set_option linter.unusedVariables false
open Go.RowKit Go.Deep

theorem near_ne {B wb fb : Nat} {w1 w2 : World} {a a2 : Option Addr} {n2 c2 : Nat} {zs : List UInt8} (hn : Near B w1 a a2) (h : ¬ wrS B wb a fb) (hlt : fb < w1.heap.size) (hw : Wr B w2 wb a2 n2 c2 zs) : ∀ b, a2.map (·.block) = some b → b ≠ fb := by
 rintro b hb rfl
 rcases hn b hb with rfl | ⟨h1, _⟩
 ·exact h (.inr ⟨(hw.o.ge b hb).1, hb⟩)
 ·omega
def bindO (r : Option (List UInt8)) (m : List Int) : Option (List UInt8) := match r with
 | some zs => numsO zs m
 | none => none
theorem bindO_none (m : List Int) : bindO none m = none := rfl
theorem bindO_some (zs : List UInt8) (m : List Int) : bindO (some zs) m = numsO zs m := rfl
theorem numsO_append' (xs : List UInt8) (l m : List Int) : numsO xs (l ++ m) = bindO (numsO xs l) m := numsO_append xs l m

set_option maxRecDepth 100000 in
set_option maxHeartbeats 3200000 in
theorem other_26 (B wb : Nat) (a : Option Addr) (n c : Nat) (xs : List UInt8) (f : Qf) (w : World) (hw : Wr B w wb a n c xs) (hf : ∀ w', Below B w w' → Qin w' f) (ht : f.c.t = 26) (hn : n ≤ 10000000) (hn8 : f.n ≤ 1000000) (hB : B ≤ w.heap.size) :
  Calls Try.prog 42 #[.pointer (some ⟨wb, 0, none⟩), .agg f.cs] w (WrP B wb a (encO xs f.c) w) := by
 have HW := Lib.hid hw
 have HF := Lib.hid hf
 have HWF := Lib.hid (hf w (Below.refl _ _)).wf
 have HXL := Lib.hid (hf w (Below.refl _ _)).b.1
 have HK0 : Hid (Keeps (fun _ => False) w (w.alloc (.cells f.cs 32 (0, 0)))) := Lib.hid ((Keeps.refl _ w).alloc _)
 have HL1 := Lib.hid (Blk.new w f.cs 32)
 clear hw hf
 have HT := Lib.hid ht
 have e16 : (f.c.t == 16) = false := by simp [ht]
 have e20 : (f.c.t == 20) = false := by simp [ht]
 have e17 : (f.c.t == 17) = false := by simp [ht]
 have e21 : (f.c.t == 21) = false := by simp [ht]
 have e18 : (f.c.t == 18) = false := by simp [ht]
 have e22 : (f.c.t == 22) = false := by simp [ht]
 have e24 : (f.c.t == 24) = false := by simp [ht]
 have e25 : (f.c.t == 25) = false := by simp [ht]
 have e26 : (f.c.t == 26) = true := by simp [ht]
 have HPL := Lib.hid (plan_26 ht)
 clear ht
 unfold Qf.cs at HK0 HL1 ⊢
 have HW1 := Lib.hid (HW.out.same HK0.out)
 go_enter Try.func42, Try.ntmps42
 go_upto_region 1 with fail
 refine wp_named ?_
 intro w1 hw1
 rw [hw1] at HK0 HL1 HW1
 have hs1 : w.heap.size ≤ w1.heap.size := HK0.out.size
 have HFR : Hid (¬ wrS B wb a w.heap.size) := Lib.hid (HW.out.fresh (Nat.le_refl _))
 have HB1 : Hid (Below B w w1) := Lib.hid (Keeps.below (Below.refl B w) HK0.out hB (fun _ h => False.elim h))
 have HK1 : Hid (Keeps (wrS B wb a) w1 w1) := Lib.hid (Keeps.refl _ _)
 have HN1 : Hid (Near B w1 a a) := Lib.hid (Near.refl B w1 a)
 have HKW : Hid (Keeps (wrS B wb a) w w1) := Lib.hid HK0.out.to
 clear hw1
 generalize w.heap.size = fb at *
 have hB1 : B ≤ w1.heap.size := by omega
 have q0 : w1.cell? ⟨fb, 0, none⟩ = some (.int .u64 f.c.t) := HL1.out.cell 0
 have q8 : w1.cell? ⟨fb, 8, none⟩ = some (.slice f.a f.n f.cap) := HL1.out.cell 8
 by_cases hm : f.c.xs.length = 8
 ·have hm8 : f.n = 8 := by rw [HXL.out]; exact hm
  have hmd : ((f.n : Int) == 8) = true := by simp [hm8]
  have HM := Lib.hid hm
  clear hm hm8
  go_wp2_with fail
  refine (must_ok w1).mono ?_
  rintro e w' ⟨rfl, rfl⟩
  have HE8 : Hid (encO xs f.c = thenO (numsO xs [f.c.t]) f.c.xs) := Lib.hid (encO_plan (by rw [HT.out]; decide) (by rw [HPL.out, if_pos HM.out, HT.out]))
  clear hmd q8
  go_wp2_with fail
  clear q0
  refine (nums_new B wb a n c xs _ 1 [f.c.t] w1 HW1.out (Uv.one' w1 _ f.c.t HWF.out.t) (by omega) (by omega) hB1).mono ?_
  rintro e w2 ⟨hk, hr⟩
  cases hv : varsOK [f.c.t] with
  | false =>
   rw [numsO_no hv] at hr
   have hr' : e = .panicked [{ v := stopV, recovered := false }] := hr
   subst hr'
   have HV := Lib.hid hv
   have HK2 := Lib.hid (wrS_trans HK1.out HN1.out hk)
   clear hv hr hk
   go_wp2_with fail
   refine ⟨rfl, ?_⟩
   rw [HE8.out, numsO_no HV.out, thenO_none]
   exact WrP.panic (Keeps.trans2 HKW.out HK2.out (fun _ _ h => h))
  | true =>
   rw [numsO_yes hv] at hr
   obtain ⟨rfl, a2, n2, c2, hw2, hn2⟩ := hr
   have HV2 := Lib.hid hv
   have HK2 := Lib.hid (wrS_trans HK1.out HN1.out hk)
   have HN2 := Lib.hid (wrS_near HN1.out HK1.out hn2)
   have HW2 := Lib.hid hw2
   have HL2 := Lib.hid (HK2.out.blk HL1.out HFR.out)
   have HB2 : Hid (Below B w w2) := Lib.hid (wrS_below HK2.out HB1.out hB1 HW.out.le)
   have hB2 : B ≤ w2.heap.size := by have := HK2.out.size; omega
   have hln2 : n2 ≤ n + 8 := by
    have h1 := hw2.len
    have h2 := HW1.out.len
    have h3 := numsO_len (numsO_yes (xs := xs) hv)
    simp only [List.length_cons, List.length_nil] at h3
    omega
   clear hv hk hw2 hn2
   go_wp2_with fail
   have hne2 : Hid (∀ b, a2.map (·.block) = some b → b ≠ fb) := Lib.hid (near_ne HN2.out HFR.out HL1.out.lt HW2.out)
   have HKd : Hid (Keeps (fun _ => False) w2 w2.drew) := Lib.hid (Keeps.refl _ _).drew
   have HWd := Lib.hid (HW2.out.same HKd.out)
   have HLd := Lib.hid (HKd.out.blk HL2.out (fun h => h))
   have hBd : B ≤ w2.drew.heap.size := hB2
   refine z_begin (fun w' : World => w'.cell? ⟨wb, 0, none⟩ = some (.slice a2 n2 c2) ∧ w'.cell? ⟨fb, 8, none⟩ = some (.slice f.a f.n f.cap)) 10 (by kernel_rfl) ?_
   change wpAnyZ _ _ _ _ _ _ _ _ _ (World.drew _)
   have hS : (fun w' : World => w'.cell? ⟨wb, 0, none⟩ = some (.slice a2 n2 c2) ∧ w'.cell? ⟨fb, 8, none⟩ = some (.slice f.a f.n f.cap)) w2.drew := ⟨HWd.out.k.cell 0, HLd.out.cell 8⟩
   refine z_take (i := 0) (v := ?_) rfl (by kernel_rfl) (by kernel_rfl) (by kernel_rfl) (by kernel_rfl) (fun _ _ _ h => h) (Or.inl ⟨by kernel_rfl, ?_⟩) hS ?_
   rotate_left
   ·intro wz ⟨_, _⟩; go_simp; try with_reducible rfl
   refine z_take (i := 1) (v := ?_) rfl (by kernel_rfl) (by kernel_rfl) (by kernel_rfl) (by kernel_rfl) (fun _ _ _ h => h) (Or.inl ⟨by kernel_rfl, ?_⟩) hS ?_
   rotate_left
   ·intro wz ⟨_, _⟩; go_simp; try with_reducible rfl
   refine z_take (i := 2) (v := ?_) rfl (by kernel_rfl) (by kernel_rfl) (by kernel_rfl) (by kernel_rfl) (fun _ _ _ h => h) (Or.inl ⟨by kernel_rfl, ?_⟩) hS ?_
   rotate_left
   ·intro wz ⟨_, _⟩; go_simp; try with_reducible rfl
   refine z_take (i := 3) (v := ?_) rfl (by kernel_rfl) (by kernel_rfl) (by kernel_rfl) (by kernel_rfl) (fun _ _ _ h => h) (Or.inl ⟨by kernel_rfl, ?_⟩) hS ?_
   rotate_left
   ·intro wz ⟨_, _⟩; go_simp; try with_reducible rfl
   refine z_take (i := 4) (v := ?_) rfl (by kernel_rfl) (by kernel_rfl) (by kernel_rfl) (by kernel_rfl) (fun _ _ _ h => h) (Or.inl ⟨by kernel_rfl, ?_⟩) hS ?_
   rotate_left
   ·intro wz ⟨_, _⟩; go_simp; try with_reducible rfl
   refine z_take (i := 5) (v := ?_) rfl (by kernel_rfl) (by kernel_rfl) (by kernel_rfl) (by kernel_rfl) (fun _ _ _ h => h) (Or.inl ⟨by kernel_rfl, ?_⟩) hS ?_
   rotate_left
   ·intro wz ⟨_, _⟩; go_simp; try with_reducible rfl
   refine z_take (i := 6) (v := ?_) rfl (by kernel_rfl) (by kernel_rfl) (by kernel_rfl) (by kernel_rfl) (fun _ _ _ h => h) (Or.inl ⟨by kernel_rfl, ?_⟩) hS ?_
   rotate_left
   ·intro wz ⟨_, _⟩; go_simp; try with_reducible rfl
   have HY := Lib.hid (HF.out w2.drew (HB2.out.drew)).b
   refine z_own2 (i := 7) rfl (by kernel_rfl) (by kernel_rfl) (.tmp 118) (.tmp 120) rfl B a2 n2 c2 (xs ++ varsE [f.c.t]) (by kernel_rfl) HWd.out.o f.a f.n f.cap f.c.xs (by kernel_rfl) HY.out (by omega) hBd ?_
   intro a3 c3 w3 ho3 hk3 hn3
   have HNA : Hid (Near B w2.drew a2 a3) := Lib.hid hn3
   refine ⟨⟨(hk3.blk HWd.out.k (fun h => HWd.out.ne wb h.2 rfl)).cell 0, (hk3.blk HLd.out (fun h => hne2.out fb h.2 rfl)).cell 8⟩, ?_⟩
   clear hS
   have hS : (fun w' : World => w'.cell? ⟨wb, 0, none⟩ = some (.slice a2 n2 c2) ∧ w'.cell? ⟨fb, 8, none⟩ = some (.slice f.a f.n f.cap)) w3 := ⟨(hk3.blk HWd.out.k (fun h => HWd.out.ne wb h.2 rfl)).cell 0, (hk3.blk HLd.out (fun h => hne2.out fb h.2 rfl)).cell 8⟩
   refine z_do (i := 8) (.pointer (some ⟨wb, 0, none⟩)) w3 rfl (by kernel_rfl) (by kernel_rfl) ?_ hS ?_
   ·go_simp; try with_reducible rfl
   refine z_do (i := 9) (.pointer (some ⟨wb, 0, none⟩)) w3 rfl (by kernel_rfl) (by kernel_rfl) ?_ hS ?_
   ·go_simp; try with_reducible rfl
   have hwl := hk3.blk HWd.out.k (fun h => HWd.out.ne wb h.2 rfl)
   have d0 : w3.cell? ⟨wb, 0, none⟩ = some (.slice a2 n2 c2) := hwl.cell 0
   have y0 : w3.frozen? ⟨wb, 0, none⟩ = false := hwl.free 0
   have HA := Lib.hid (HWd.out.app ho3 hk3 hn3)
   clear hwl
   refine z_last (w3.setCell ⟨wb, 0, none⟩ (.slice a3 (n2 + f.n) c3)) rfl (by kernel_rfl) (by kernel_rfl) ?_ (by kernel_rfl) ?_
   ·go_simp; try with_reducible rfl
   refine ⟨by kernel_rfl, .tuple #[], by simp [results, Try.results42, go_sem], ?_⟩
   rw [HE8.out, numsO_yes HV2.out, thenO_some]
   have hkA := wrS_trans HK2.out HN2.out (HKd.out.to.trans HA.out.2)
   exact ⟨Keeps.trans2 HKW.out hkA (fun _ _ h => h), rfl, _, _, _, HA.out.1, near_to (wrS_near HN2.out HK2.out (near_to HNA.out HKd.out.size)) HKW.out.size⟩
 ·have hm8 : f.n ≠ 8 := by rw [HXL.out]; exact hm
  have hmd : ((f.n : Int) == 8) = false := by simp; omega
  have HM := Lib.hid hm
  clear hm hm8
  go_wp2_with fail
  refine (must_no w1).mono ?_
  rintro e w' ⟨rfl, rfl⟩
  go_wp2_with fail
  refine ⟨rfl, ?_⟩
  rw [encO_no (by rw [HT.out]; decide) (by rw [HPL.out, if_neg HM.out])]
  exact WrP.panic (Keeps.trans2 HKW.out HK1.out (fun _ _ h => h))

set_option maxRecDepth 100000 in
set_option maxHeartbeats 3200000 in
theorem other_27 (B wb : Nat) (a : Option Addr) (n c : Nat) (xs : List UInt8) (f : Qf) (w : World) (hw : Wr B w wb a n c xs) (hf : ∀ w', Below B w w' → Qin w' f) (ht : f.c.t = 27) (hn : n ≤ 10000000) (hn8 : f.n ≤ 1000000) (hB : B ≤ w.heap.size) :
  Calls Try.prog 42 #[.pointer (some ⟨wb, 0, none⟩), .agg f.cs] w (WrP B wb a (encO xs f.c) w) := by
 have HW := Lib.hid hw
 have HF := Lib.hid hf
 have HWF := Lib.hid (hf w (Below.refl _ _)).wf
 have HXL := Lib.hid (hf w (Below.refl _ _)).b.1
 have HK0 : Hid (Keeps (fun _ => False) w (w.alloc (.cells f.cs 32 (0, 0)))) := Lib.hid ((Keeps.refl _ w).alloc _)
 have HL1 := Lib.hid (Blk.new w f.cs 32)
 clear hw hf
 have HT := Lib.hid ht
 have e16 : (f.c.t == 16) = false := by simp [ht]
 have e20 : (f.c.t == 20) = false := by simp [ht]
 have e17 : (f.c.t == 17) = false := by simp [ht]
 have e21 : (f.c.t == 21) = false := by simp [ht]
 have e18 : (f.c.t == 18) = false := by simp [ht]
 have e22 : (f.c.t == 22) = false := by simp [ht]
 have e24 : (f.c.t == 24) = false := by simp [ht]
 have e25 : (f.c.t == 25) = false := by simp [ht]
 have e26 : (f.c.t == 26) = false := by simp [ht]
 have e27 : (f.c.t == 27) = true := by simp [ht]
 have HPL := Lib.hid (plan_27 ht)
 clear ht
 unfold Qf.cs at HK0 HL1 ⊢
 have HW1 := Lib.hid (HW.out.same HK0.out)
 go_enter Try.func42, Try.ntmps42
 go_upto_region 1 with fail
 refine wp_named ?_
 intro w1 hw1
 rw [hw1] at HK0 HL1 HW1
 have hs1 : w.heap.size ≤ w1.heap.size := HK0.out.size
 have HFR : Hid (¬ wrS B wb a w.heap.size) := Lib.hid (HW.out.fresh (Nat.le_refl _))
 have HB1 : Hid (Below B w w1) := Lib.hid (Keeps.below (Below.refl B w) HK0.out hB (fun _ h => False.elim h))
 have HK1 : Hid (Keeps (wrS B wb a) w1 w1) := Lib.hid (Keeps.refl _ _)
 have HN1 : Hid (Near B w1 a a) := Lib.hid (Near.refl B w1 a)
 have HKW : Hid (Keeps (wrS B wb a) w w1) := Lib.hid HK0.out.to
 clear hw1
 generalize w.heap.size = fb at *
 have hB1 : B ≤ w1.heap.size := by omega
 have q0 : w1.cell? ⟨fb, 0, none⟩ = some (.int .u64 f.c.t) := HL1.out.cell 0
 have q8 : w1.cell? ⟨fb, 8, none⟩ = some (.slice f.a f.n f.cap) := HL1.out.cell 8
 by_cases hm : f.c.xs.length = 8
 ·have hm8 : f.n = 8 := by rw [HXL.out]; exact hm
  have hmd : ((f.n : Int) == 8) = true := by simp [hm8]
  have HM := Lib.hid hm
  clear hm hm8
  go_wp2_with fail
  refine (must_ok w1).mono ?_
  rintro e w' ⟨rfl, rfl⟩
  have HE8 : Hid (encO xs f.c = thenO (numsO xs [f.c.t]) f.c.xs) := Lib.hid (encO_plan (by rw [HT.out]; decide) (by rw [HPL.out, if_pos HM.out, HT.out]))
  clear hmd q8
  go_wp2_with fail
  clear q0
  refine (nums_new B wb a n c xs _ 1 [f.c.t] w1 HW1.out (Uv.one' w1 _ f.c.t HWF.out.t) (by omega) (by omega) hB1).mono ?_
  rintro e w2 ⟨hk, hr⟩
  cases hv : varsOK [f.c.t] with
  | false =>
   rw [numsO_no hv] at hr
   have hr' : e = .panicked [{ v := stopV, recovered := false }] := hr
   subst hr'
   have HV := Lib.hid hv
   have HK2 := Lib.hid (wrS_trans HK1.out HN1.out hk)
   clear hv hr hk
   go_wp2_with fail
   refine ⟨rfl, ?_⟩
   rw [HE8.out, numsO_no HV.out, thenO_none]
   exact WrP.panic (Keeps.trans2 HKW.out HK2.out (fun _ _ h => h))
  | true =>
   rw [numsO_yes hv] at hr
   obtain ⟨rfl, a2, n2, c2, hw2, hn2⟩ := hr
   have HV2 := Lib.hid hv
   have HK2 := Lib.hid (wrS_trans HK1.out HN1.out hk)
   have HN2 := Lib.hid (wrS_near HN1.out HK1.out hn2)
   have HW2 := Lib.hid hw2
   have HL2 := Lib.hid (HK2.out.blk HL1.out HFR.out)
   have HB2 : Hid (Below B w w2) := Lib.hid (wrS_below HK2.out HB1.out hB1 HW.out.le)
   have hB2 : B ≤ w2.heap.size := by have := HK2.out.size; omega
   have hln2 : n2 ≤ n + 8 := by
    have h1 := hw2.len
    have h2 := HW1.out.len
    have h3 := numsO_len (numsO_yes (xs := xs) hv)
    simp only [List.length_cons, List.length_nil] at h3
    omega
   clear hv hk hw2 hn2
   go_wp2_with fail
   have hne2 : Hid (∀ b, a2.map (·.block) = some b → b ≠ fb) := Lib.hid (near_ne HN2.out HFR.out HL1.out.lt HW2.out)
   have HKd : Hid (Keeps (fun _ => False) w2 w2.drew) := Lib.hid (Keeps.refl _ _).drew
   have HWd := Lib.hid (HW2.out.same HKd.out)
   have HLd := Lib.hid (HKd.out.blk HL2.out (fun h => h))
   have hBd : B ≤ w2.drew.heap.size := hB2
   refine z_begin (fun w' : World => w'.cell? ⟨wb, 0, none⟩ = some (.slice a2 n2 c2) ∧ w'.cell? ⟨fb, 8, none⟩ = some (.slice f.a f.n f.cap)) 10 (by kernel_rfl) ?_
   change wpAnyZ _ _ _ _ _ _ _ _ _ (World.drew _)
   have hS : (fun w' : World => w'.cell? ⟨wb, 0, none⟩ = some (.slice a2 n2 c2) ∧ w'.cell? ⟨fb, 8, none⟩ = some (.slice f.a f.n f.cap)) w2.drew := ⟨HWd.out.k.cell 0, HLd.out.cell 8⟩
   refine z_take (i := 0) (v := ?_) rfl (by kernel_rfl) (by kernel_rfl) (by kernel_rfl) (by kernel_rfl) (fun _ _ _ h => h) (Or.inl ⟨by kernel_rfl, ?_⟩) hS ?_
   rotate_left
   ·intro wz ⟨_, _⟩; go_simp; try with_reducible rfl
   refine z_take (i := 1) (v := ?_) rfl (by kernel_rfl) (by kernel_rfl) (by kernel_rfl) (by kernel_rfl) (fun _ _ _ h => h) (Or.inl ⟨by kernel_rfl, ?_⟩) hS ?_
   rotate_left
   ·intro wz ⟨_, _⟩; go_simp; try with_reducible rfl
   refine z_take (i := 2) (v := ?_) rfl (by kernel_rfl) (by kernel_rfl) (by kernel_rfl) (by kernel_rfl) (fun _ _ _ h => h) (Or.inl ⟨by kernel_rfl, ?_⟩) hS ?_
   rotate_left
   ·intro wz ⟨_, _⟩; go_simp; try with_reducible rfl
   refine z_take (i := 3) (v := ?_) rfl (by kernel_rfl) (by kernel_rfl) (by kernel_rfl) (by kernel_rfl) (fun _ _ _ h => h) (Or.inl ⟨by kernel_rfl, ?_⟩) hS ?_
   rotate_left
   ·intro wz ⟨_, _⟩; go_simp; try with_reducible rfl
   refine z_take (i := 4) (v := ?_) rfl (by kernel_rfl) (by kernel_rfl) (by kernel_rfl) (by kernel_rfl) (fun _ _ _ h => h) (Or.inl ⟨by kernel_rfl, ?_⟩) hS ?_
   rotate_left
   ·intro wz ⟨_, _⟩; go_simp; try with_reducible rfl
   refine z_take (i := 5) (v := ?_) rfl (by kernel_rfl) (by kernel_rfl) (by kernel_rfl) (by kernel_rfl) (fun _ _ _ h => h) (Or.inl ⟨by kernel_rfl, ?_⟩) hS ?_
   rotate_left
   ·intro wz ⟨_, _⟩; go_simp; try with_reducible rfl
   refine z_take (i := 6) (v := ?_) rfl (by kernel_rfl) (by kernel_rfl) (by kernel_rfl) (by kernel_rfl) (fun _ _ _ h => h) (Or.inl ⟨by kernel_rfl, ?_⟩) hS ?_
   rotate_left
   ·intro wz ⟨_, _⟩; go_simp; try with_reducible rfl
   have HY := Lib.hid (HF.out w2.drew (HB2.out.drew)).b
   refine z_own2 (i := 7) rfl (by kernel_rfl) (by kernel_rfl) (.tmp 118) (.tmp 120) rfl B a2 n2 c2 (xs ++ varsE [f.c.t]) (by kernel_rfl) HWd.out.o f.a f.n f.cap f.c.xs (by kernel_rfl) HY.out (by omega) hBd ?_
   intro a3 c3 w3 ho3 hk3 hn3
   have HNA : Hid (Near B w2.drew a2 a3) := Lib.hid hn3
   refine ⟨⟨(hk3.blk HWd.out.k (fun h => HWd.out.ne wb h.2 rfl)).cell 0, (hk3.blk HLd.out (fun h => hne2.out fb h.2 rfl)).cell 8⟩, ?_⟩
   clear hS
   have hS : (fun w' : World => w'.cell? ⟨wb, 0, none⟩ = some (.slice a2 n2 c2) ∧ w'.cell? ⟨fb, 8, none⟩ = some (.slice f.a f.n f.cap)) w3 := ⟨(hk3.blk HWd.out.k (fun h => HWd.out.ne wb h.2 rfl)).cell 0, (hk3.blk HLd.out (fun h => hne2.out fb h.2 rfl)).cell 8⟩
   refine z_do (i := 8) (.pointer (some ⟨wb, 0, none⟩)) w3 rfl (by kernel_rfl) (by kernel_rfl) ?_ hS ?_
   ·go_simp; try with_reducible rfl
   refine z_do (i := 9) (.pointer (some ⟨wb, 0, none⟩)) w3 rfl (by kernel_rfl) (by kernel_rfl) ?_ hS ?_
   ·go_simp; try with_reducible rfl
   have hwl := hk3.blk HWd.out.k (fun h => HWd.out.ne wb h.2 rfl)
   have d0 : w3.cell? ⟨wb, 0, none⟩ = some (.slice a2 n2 c2) := hwl.cell 0
   have y0 : w3.frozen? ⟨wb, 0, none⟩ = false := hwl.free 0
   have HA := Lib.hid (HWd.out.app ho3 hk3 hn3)
   clear hwl
   refine z_last (w3.setCell ⟨wb, 0, none⟩ (.slice a3 (n2 + f.n) c3)) rfl (by kernel_rfl) (by kernel_rfl) ?_ (by kernel_rfl) ?_
   ·go_simp; try with_reducible rfl
   refine ⟨by kernel_rfl, .tuple #[], by simp [results, Try.results42, go_sem], ?_⟩
   rw [HE8.out, numsO_yes HV2.out, thenO_some]
   have hkA := wrS_trans HK2.out HN2.out (HKd.out.to.trans HA.out.2)
   exact ⟨Keeps.trans2 HKW.out hkA (fun _ _ h => h), rfl, _, _, _, HA.out.1, near_to (wrS_near HN2.out HK2.out (near_to HNA.out HKd.out.size)) HKW.out.size⟩
 ·have hm8 : f.n ≠ 8 := by rw [HXL.out]; exact hm
  have hmd : ((f.n : Int) == 8) = false := by simp; omega
  have HM := Lib.hid hm
  clear hm hm8
  go_wp2_with fail
  refine (must_no w1).mono ?_
  rintro e w' ⟨rfl, rfl⟩
  go_wp2_with fail
  refine ⟨rfl, ?_⟩
  rw [encO_no (by rw [HT.out]; decide) (by rw [HPL.out, if_neg HM.out])]
  exact WrP.panic (Keeps.trans2 HKW.out HK1.out (fun _ _ h => h))

set_option maxRecDepth 100000 in
set_option maxHeartbeats 3200000 in
theorem other_24 (B wb : Nat) (a : Option Addr) (n c : Nat) (xs : List UInt8) (f : Qf) (w : World) (hw : Wr B w wb a n c xs) (hf : ∀ w', Below B w w' → Qin w' f) (ht : f.c.t = 24) (hn : n ≤ 10000000) (hn8 : f.n ≤ 1000000) (hB : B ≤ w.heap.size) :
  Calls Try.prog 42 #[.pointer (some ⟨wb, 0, none⟩), .agg f.cs] w (WrP B wb a (encO xs f.c) w) := by
 have HW := Lib.hid hw
 have HF := Lib.hid hf
 have HWF := Lib.hid (hf w (Below.refl _ _)).wf
 have HXL := Lib.hid (hf w (Below.refl _ _)).b.1
 have HK0 : Hid (Keeps (fun _ => False) w (w.alloc (.cells f.cs 32 (0, 0)))) := Lib.hid ((Keeps.refl _ w).alloc _)
 have HL1 := Lib.hid (Blk.new w f.cs 32)
 clear hw hf
 have HT := Lib.hid ht
 have e16 : (f.c.t == 16) = false := by simp [ht]
 have e20 : (f.c.t == 20) = false := by simp [ht]
 have e17 : (f.c.t == 17) = false := by simp [ht]
 have e21 : (f.c.t == 21) = false := by simp [ht]
 have e18 : (f.c.t == 18) = false := by simp [ht]
 have e22 : (f.c.t == 22) = false := by simp [ht]
 have e24 : (f.c.t == 24) = true := by simp [ht]
 have HPL := Lib.hid (plan_24 ht)
 clear ht
 unfold Qf.cs at HK0 HL1 ⊢
 have HW1 := Lib.hid (HW.out.same HK0.out)
 go_enter Try.func42, Try.ntmps42
 go_upto_region 1 with fail
 refine wp_named ?_
 intro w1 hw1
 rw [hw1] at HK0 HL1 HW1
 have hs1 : w.heap.size ≤ w1.heap.size := HK0.out.size
 have HFR : Hid (¬ wrS B wb a w.heap.size) := Lib.hid (HW.out.fresh (Nat.le_refl _))
 have HB1 : Hid (Below B w w1) := Lib.hid (Keeps.below (Below.refl B w) HK0.out hB (fun _ h => False.elim h))
 have HK1 : Hid (Keeps (wrS B wb a) w1 w1) := Lib.hid (Keeps.refl _ _)
 have HN1 : Hid (Near B w1 a a) := Lib.hid (Near.refl B w1 a)
 have HKW : Hid (Keeps (wrS B wb a) w w1) := Lib.hid HK0.out.to
 clear hw1
 generalize w.heap.size = fb at *
 have hB1 : B ≤ w1.heap.size := by omega
 have q0 : w1.cell? ⟨fb, 0, none⟩ = some (.int .u64 f.c.t) := HL1.out.cell 0
 have q1 : w1.cell? ⟨fb, 1, none⟩ = some (.int .u64 f.c.id) := HL1.out.cell 1
 have q4 : w1.cell? ⟨fb, 4, none⟩ = some (.int .u64 f.c.mx) := HL1.out.cell 4
 have q8 : w1.cell? ⟨fb, 8, none⟩ = some (.slice f.a f.n f.cap) := HL1.out.cell 8
 by_cases m1 : f.c.mx ≤ f.c.id
 ·have d1 : decide (f.c.mx ≤ f.c.id) = true := decide_eq_true m1
  by_cases m2 : 16 < f.n
  ·have d2 : decide ((16 : Int) < (f.n : Int)) = true := by simp; omega
   by_cases m3 : f.n ≤ 36
   ·have d3 : decide ((f.n : Int) ≤ 36) = true := by simp; omega
    have HM : Hid (f.c.mx ≤ f.c.id ∧ 16 < f.c.xs.length ∧ f.c.xs.length ≤ 36) := Lib.hid ⟨m1, by rw [← HXL.out]; exact m2, by rw [← HXL.out]; exact m3⟩
    go_wp2_with fail
    refine (must_ok w1).mono ?_
    rintro e w' ⟨rfl, rfl⟩
    have HE8 : Hid (encO xs f.c = thenO (numsO xs [f.c.t, f.c.id, f.c.mx]) (byt ((f.n : Int) - 16) :: f.c.xs)) := Lib.hid (encO_plan (by rw [HT.out]; decide) (by rw [HPL.out, if_pos HM.out, HT.out, HXL.out]))
    clear d1 d2 d3 m1 q8
    go_wp2_with fail
    clear q0 q1 q4
    refine (nums_new B wb a n c xs _ 3 [f.c.t, f.c.id, f.c.mx] w1 HW1.out (Uv.three w1 _ f.c.t f.c.id f.c.mx HWF.out.t HWF.out.id HWF.out.mx) (by omega) (by omega) hB1).mono ?_
    rintro e w2 ⟨hk, hr⟩
    cases hv : varsOK [f.c.t, f.c.id, f.c.mx] with
    | false =>
     rw [numsO_no hv] at hr
     have hr' : e = .panicked [{ v := stopV, recovered := false }] := hr
     subst hr'
     have HV := Lib.hid hv
     have HK2 := Lib.hid (wrS_trans HK1.out HN1.out hk)
     clear hv hr hk
     go_wp2_with fail
     refine ⟨rfl, ?_⟩
     rw [HE8.out, numsO_no HV.out, thenO_none]
     exact WrP.panic (Keeps.trans2 HKW.out HK2.out (fun _ _ h => h))
    | true =>
     rw [numsO_yes hv] at hr
     obtain ⟨rfl, a2, n2, c2, hw2, hn2⟩ := hr
     have HV2 := Lib.hid hv
     have HK2 := Lib.hid (wrS_trans HK1.out HN1.out hk)
     have HN2 := Lib.hid (wrS_near HN1.out HK1.out hn2)
     have HW2 := Lib.hid hw2
     have HL2 := Lib.hid (HK2.out.blk HL1.out HFR.out)
     have HB2 : Hid (Below B w w2) := Lib.hid (wrS_below HK2.out HB1.out hB1 HW.out.le)
     have hB2 : B ≤ w2.heap.size := by have := HK2.out.size; omega
     have hln2 : n2 ≤ n + 24 := by
      have h1 := hw2.len
      have h2 := HW1.out.len
      have h3 := numsO_len (numsO_yes (xs := xs) hv)
      simp only [List.length_cons, List.length_nil] at h3
      omega
     clear hv hk hw2 hn2
     go_wp2_with fail
     have hsub : IntKind.i64.wrap ((f.n : Int) - 16) = (f.n : Int) - 16 := by rw [IntKind.wrap_i64]; omega
     have hcv : IntKind.u8.wrap ((f.n : Int) - 16) = ((byt ((f.n : Int) - 16)).toNat : Int) := by rw [IntKind.wrap_u8, byt_val]
     have hne2 : Hid (∀ b, a2.map (·.block) = some b → b ≠ fb) := Lib.hid (near_ne HN2.out HFR.out HL1.out.lt HW2.out)
     have HKd : Hid (Keeps (fun _ => False) w2 w2.drew) := Lib.hid (Keeps.refl _ _).drew
     have HWd := Lib.hid (HW2.out.same HKd.out)
     have HLd := Lib.hid (HKd.out.blk HL2.out (fun h => h))
     have hBd : B ≤ w2.drew.heap.size := hB2
     refine z_begin (fun w' : World => w'.cell? ⟨wb, 0, none⟩ = some (.slice a2 n2 c2) ∧ w'.cell? ⟨fb, 8, none⟩ = some (.slice f.a f.n f.cap)) 17 (by kernel_rfl) ?_
     change wpAnyZ _ _ _ _ _ _ _ _ _ (World.drew _)
     have hS : (fun w' : World => w'.cell? ⟨wb, 0, none⟩ = some (.slice a2 n2 c2) ∧ w'.cell? ⟨fb, 8, none⟩ = some (.slice f.a f.n f.cap)) w2.drew := ⟨HWd.out.k.cell 0, HLd.out.cell 8⟩
     refine z_take (i := 0) (v := ?_) rfl (by kernel_rfl) (by kernel_rfl) (by kernel_rfl) (by kernel_rfl) (fun _ _ _ h => h) (Or.inl ⟨by kernel_rfl, ?_⟩) hS ?_
     rotate_left
     ·intro wz ⟨_, _⟩; go_simp; try with_reducible rfl
     refine z_take (i := 1) (v := ?_) rfl (by kernel_rfl) (by kernel_rfl) (by kernel_rfl) (by kernel_rfl) (fun _ _ _ h => h) (Or.inl ⟨by kernel_rfl, ?_⟩) hS ?_
     rotate_left
     ·intro wz ⟨_, _⟩; go_simp; try with_reducible rfl
     refine z_take (i := 2) (v := ?_) rfl (by kernel_rfl) (by kernel_rfl) (by kernel_rfl) (by kernel_rfl) (fun _ _ _ h => h) (Or.inl ⟨by kernel_rfl, ?_⟩) hS ?_
     rotate_left
     ·intro wz ⟨_, _⟩; go_simp; try with_reducible rfl
     refine z_take (i := 3) (v := ?_) rfl (by kernel_rfl) (by kernel_rfl) (by kernel_rfl) (by kernel_rfl) (fun _ _ _ h => h) (Or.inl ⟨by kernel_rfl, ?_⟩) hS ?_
     rotate_left
     ·intro wz ⟨_, _⟩; go_simp; try with_reducible rfl
     refine z_take (i := 4) (v := ?_) rfl (by kernel_rfl) (by kernel_rfl) (by kernel_rfl) (by kernel_rfl) (fun _ _ _ h => h) (Or.inl ⟨by kernel_rfl, ?_⟩) hS ?_
     rotate_left
     ·intro wz ⟨_, _⟩; go_simp; try with_reducible rfl
     refine z_take (i := 5) (v := ?_) rfl (by kernel_rfl) (by kernel_rfl) (by kernel_rfl) (by kernel_rfl) (fun _ _ _ h => h) (Or.inl ⟨by kernel_rfl, ?_⟩) hS ?_
     rotate_left
     ·intro wz ⟨_, _⟩; go_simp; try with_reducible rfl
     refine z_take (i := 6) (v := ?_) rfl (by kernel_rfl) (by kernel_rfl) (by kernel_rfl) (by kernel_rfl) (fun _ _ _ h => h) (Or.inl ⟨by kernel_rfl, ?_⟩) hS ?_
     rotate_left
     ·intro wz ⟨_, _⟩; go_simp; try with_reducible rfl
     refine z_take (i := 7) (v := ?_) rfl (by kernel_rfl) (by kernel_rfl) (by kernel_rfl) (by kernel_rfl) (fun _ _ _ h => h) (Or.inl ⟨by kernel_rfl, ?_⟩) hS ?_
     rotate_left
     ·intro wz ⟨_, _⟩; go_simp; try with_reducible rfl
     refine z_take (i := 8) (v := ?_) rfl (by kernel_rfl) (by kernel_rfl) (by kernel_rfl) (by kernel_rfl) (fun _ _ _ h => h) (Or.inl ⟨by kernel_rfl, ?_⟩) hS ?_
     rotate_left
     ·intro wz ⟨_, _⟩; go_simp; try with_reducible rfl
     refine z_take (i := 9) (v := ?_) rfl (by kernel_rfl) (by kernel_rfl) (by kernel_rfl) (by kernel_rfl) (fun _ _ _ h => h) (Or.inl ⟨by kernel_rfl, ?_⟩) hS ?_
     rotate_left
     ·intro wz ⟨_, _⟩; go_simp; try with_reducible rfl
     refine z_take (i := 12) (v := ?_) rfl (by kernel_rfl) (by kernel_rfl) (by kernel_rfl) (by kernel_rfl) (fun _ _ _ h => h) (Or.inl ⟨by kernel_rfl, ?_⟩) hS ?_
     rotate_left
     ·intro wz ⟨_, _⟩; go_simp; try with_reducible rfl
     refine z_take (i := 13) (v := ?_) rfl (by kernel_rfl) (by kernel_rfl) (by kernel_rfl) (by kernel_rfl) (fun _ _ _ h => h) (Or.inl ⟨by kernel_rfl, ?_⟩) hS ?_
     rotate_left
     ·intro wz ⟨_, _⟩; go_simp; try with_reducible rfl
     clear hsub hcv
     have HKa : Hid (Keeps (fun _ => False) w2.drew (w2.drew.alloc (.cells #[.int .u8 ((byt ((f.n : Int) - 16)).toNat : Int)] 5 (0, 0)))) := Lib.hid ((Keeps.refl _ _).alloc _)
     have HWa := Lib.hid (HWd.out.same HKa.out)
     have HLa := Lib.hid (HKa.out.blk HLd.out (fun h => h))
     have hBa : B ≤ (w2.drew.alloc (.cells #[.int .u8 ((byt ((f.n : Int) - 16)).toNat : Int)] 5 (0, 0))).heap.size := Nat.le_trans hBd HKa.out.size
     refine z_do (i := 10) (.slice (some ⟨w2.heap.size, 0, none⟩) 1 1) (w2.drew.alloc (.cells #[.int .u8 ((byt ((f.n : Int) - 16)).toNat : Int)] 5 (0, 0))) rfl (by kernel_rfl) (by kernel_rfl) ?_ ⟨HWa.out.k.cell 0, HLa.out.cell 8⟩ ?_
     ·go_simp; try with_reducible rfl
     refine z_own2 (i := 11) rfl (by kernel_rfl) (by kernel_rfl) (.tmp 79) (.tmp 85) rfl B a2 n2 c2 (xs ++ varsE [f.c.t, f.c.id, f.c.mx]) (by kernel_rfl) HWa.out.o _ 1 1 [byt ((f.n : Int) - 16)] (by kernel_rfl) (By.new w2.drew [byt ((f.n : Int) - 16)] _ _ (by simp) rfl) (by omega) hBa ?_
     intro a3 c3 w3 ho3 hk3 hn3
     have hWb3 := hk3.blk HWa.out.k (fun h => HWa.out.ne wb h.2 rfl)
     have hLb3 := hk3.blk HLa.out (fun h => hne2.out fb h.2 rfl)
     refine ⟨⟨hWb3.cell 0, hLb3.cell 8⟩, ?_⟩
     have hB3 : B ≤ w3.heap.size := Nat.le_trans hBa hk3.size
     have HY := Lib.hid (HF.out w3 (Keeps.below ((HB2.out.drew).alloc hBd _) hk3 hBa (fun k h => h.1))).b
     refine z_own2 (i := 14) rfl (by kernel_rfl) (by kernel_rfl) (.tmp 86) (.tmp 88) rfl B a3 (n2 + 1) c3 ((xs ++ varsE [f.c.t, f.c.id, f.c.mx]) ++ [byt ((f.n : Int) - 16)]) (by kernel_rfl) ho3 f.a f.n f.cap f.c.xs (by kernel_rfl) HY.out (by omega) hB3 ?_
     intro a4 c4 w4 ho4 hk4 hn4
     have hk24 : Keeps (mine B a2) (w2.drew.alloc (.cells #[.int .u8 ((byt ((f.n : Int) - 16)).toNat : Int)] 5 (0, 0))) w4 := Keeps.trans2 hk3 hk4 (fun b hb h => by
      rcases hn3 b h.2 with rfl | ⟨h1, _⟩
      ·exact h
      ·omega)
     have hn24 := hn3.step hk3 hn4
     have HNA : Hid (Near B w2.drew a2 a4) := Lib.hid (near_to hn24 HKa.out.size)
     refine ⟨⟨(hk24.blk HWa.out.k (fun h => HWa.out.ne wb h.2 rfl)).cell 0, (hk24.blk HLa.out (fun h => hne2.out fb h.2 rfl)).cell 8⟩, ?_⟩
     clear hS
     have hS : (fun w' : World => w'.cell? ⟨wb, 0, none⟩ = some (.slice a2 n2 c2) ∧ w'.cell? ⟨fb, 8, none⟩ = some (.slice f.a f.n f.cap)) w4 := ⟨(hk24.blk HWa.out.k (fun h => HWa.out.ne wb h.2 rfl)).cell 0, (hk24.blk HLa.out (fun h => hne2.out fb h.2 rfl)).cell 8⟩
     refine z_do (i := 15) (.pointer (some ⟨wb, 0, none⟩)) w4 rfl (by kernel_rfl) (by kernel_rfl) ?_ hS ?_
     ·go_simp; try with_reducible rfl
     refine z_do (i := 16) (.pointer (some ⟨wb, 0, none⟩)) w4 rfl (by kernel_rfl) (by kernel_rfl) ?_ hS ?_
     ·go_simp; try with_reducible rfl
     have hwl := hk24.blk HWa.out.k (fun h => HWa.out.ne wb h.2 rfl)
     have d0 : w4.cell? ⟨wb, 0, none⟩ = some (.slice a2 n2 c2) := hwl.cell 0
     have y0 : w4.frozen? ⟨wb, 0, none⟩ = false := hwl.free 0
     have HA := Lib.hid (HWa.out.app ho4 hk24 hn24)
     clear hwl
     refine z_last (w4.setCell ⟨wb, 0, none⟩ (.slice a4 (n2 + 1 + f.n) c4)) rfl (by kernel_rfl) (by kernel_rfl) ?_ (by kernel_rfl) ?_
     ·go_simp; try with_reducible rfl
     refine ⟨by kernel_rfl, .tuple #[], by simp [results, Try.results42, go_sem], ?_⟩
     rw [HE8.out, numsO_yes HV2.out, thenO_some]
     have hkA := wrS_trans HK2.out HN2.out (HKd.out.to.trans (HKa.out.to.trans HA.out.2))
     exact ⟨Keeps.trans2 HKW.out hkA (fun _ _ h => h), rfl, _, _, _, by have h := HA.out.1; rw [List.append_assoc] at h; exact h, near_to (wrS_near HN2.out HK2.out (near_to HNA.out HKd.out.size)) HKW.out.size⟩
   ·have d3 : decide ((f.n : Int) ≤ 36) = false := by simp; omega
    go_wp2_with fail
    refine (must_no w1).mono ?_
    rintro e w' ⟨rfl, rfl⟩
    go_wp2_with fail
    refine ⟨rfl, ?_⟩
    rw [encO_no (by rw [HT.out]; decide) (by rw [HPL.out, if_neg (by have := HXL.out; omega)])]
    exact WrP.panic (Keeps.trans2 HKW.out HK1.out (fun _ _ h => h))
  ·have d2 : decide ((16 : Int) < (f.n : Int)) = false := by simp; omega
   go_wp2_with fail
   refine (must_no w1).mono ?_
   rintro e w' ⟨rfl, rfl⟩
   go_wp2_with fail
   refine ⟨rfl, ?_⟩
   rw [encO_no (by rw [HT.out]; decide) (by rw [HPL.out, if_neg (by have := HXL.out; omega)])]
   exact WrP.panic (Keeps.trans2 HKW.out HK1.out (fun _ _ h => h))
 ·have d1 : decide (f.c.mx ≤ f.c.id) = false := decide_eq_false m1
  have HM := Lib.hid m1
  clear m1
  go_wp2_with fail
  refine (must_no w1).mono ?_
  rintro e w' ⟨rfl, rfl⟩
  go_wp2_with fail
  refine ⟨rfl, ?_⟩
  rw [encO_no (by rw [HT.out]; decide) (by rw [HPL.out, if_neg (by have := HM.out; omega)])]
  exact WrP.panic (Keeps.trans2 HKW.out HK1.out (fun _ _ h => h))

set_option maxRecDepth 100000 in
set_option maxHeartbeats 3200000 in
theorem other_28 (B wb : Nat) (a : Option Addr) (n c : Nat) (xs : List UInt8) (f : Qf) (w : World) (hw : Wr B w wb a n c xs) (hf : ∀ w', Below B w w' → Qin w' f) (ht : f.c.t = 28) (hn : n ≤ 10000000) (hn8 : f.n ≤ 1000000) (hB : B ≤ w.heap.size) :
  Calls Try.prog 42 #[.pointer (some ⟨wb, 0, none⟩), .agg f.cs] w (WrP B wb a (encO xs f.c) w) := by
 have HW := Lib.hid hw
 have HF := Lib.hid hf
 have HWF := Lib.hid (hf w (Below.refl _ _)).wf
 have HXL := Lib.hid (hf w (Below.refl _ _)).b.1
 have HK0 : Hid (Keeps (fun _ => False) w (w.alloc (.cells f.cs 32 (0, 0)))) := Lib.hid ((Keeps.refl _ w).alloc _)
 have HL1 := Lib.hid (Blk.new w f.cs 32)
 clear hw hf
 have HT := Lib.hid ht
 have e16 : (f.c.t == 16) = false := by simp [ht]
 have e20 : (f.c.t == 20) = false := by simp [ht]
 have e17 : (f.c.t == 17) = false := by simp [ht]
 have e21 : (f.c.t == 21) = false := by simp [ht]
 have e18 : (f.c.t == 18) = false := by simp [ht]
 have e22 : (f.c.t == 22) = false := by simp [ht]
 have e24 : (f.c.t == 24) = false := by simp [ht]
 have e25 : (f.c.t == 25) = false := by simp [ht]
 have e26 : (f.c.t == 26) = false := by simp [ht]
 have e27 : (f.c.t == 27) = false := by simp [ht]
 have e28 : (f.c.t == 28) = true := by simp [ht]
 have HPL := Lib.hid (plan_28 ht)
 clear ht
 unfold Qf.cs at HK0 HL1 ⊢
 have HW1 := Lib.hid (HW.out.same HK0.out)
 go_enter Try.func42, Try.ntmps42
 go_upto_region 1 with fail
 refine wp_named ?_
 intro w1 hw1
 rw [hw1] at HK0 HL1 HW1
 have hs1 : w.heap.size ≤ w1.heap.size := HK0.out.size
 have HFR : Hid (¬ wrS B wb a w.heap.size) := Lib.hid (HW.out.fresh (Nat.le_refl _))
 have HB1 : Hid (Below B w w1) := Lib.hid (Keeps.below (Below.refl B w) HK0.out hB (fun _ h => False.elim h))
 have HK1 : Hid (Keeps (wrS B wb a) w1 w1) := Lib.hid (Keeps.refl _ _)
 have HN1 : Hid (Near B w1 a a) := Lib.hid (Near.refl B w1 a)
 have HKW : Hid (Keeps (wrS B wb a) w w1) := Lib.hid HK0.out.to
 clear hw1
 generalize w.heap.size = fb at *
 have hB1 : B ≤ w1.heap.size := by omega
 have q0 : w1.cell? ⟨fb, 0, none⟩ = some (.int .u64 f.c.t) := HL1.out.cell 0
 cases hap : f.c.app with
 | true =>
  have HAP := Lib.hid hap
  clear hap
  go_wp2_with fail
  clear q0
  have HE8 : Hid (encO xs f.c = thenO (numsO xs [f.c.t + b2i f.c.app, f.c.code]) (varsE [(f.n : Int)] ++ f.c.xs)) := Lib.hid (encO_text (by rw [HT.out]; decide) (l' := [29, f.c.code, (f.c.xs.length : Int)]) (by rw [HPL.out, if_pos HAP.out]) (by rw [HT.out, HAP.out, HXL.out]; rfl) hn8)
  have hb2 := b2i_bd f.c.app
  have ht0 : 0 ≤ f.c.t := HWF.out.t.1
  have ht1 : f.c.t ≤ 900 := by rw [HT.out]; decide
  have HKd : Hid (Keeps (fun _ => False) w1 w1.drew) := Lib.hid (Keeps.refl _ _).drew
  have HWd := Lib.hid (HW1.out.same HKd.out)
  refine wp_region_held (S := fun w' : World => w'.cell? ⟨fb, 0, none⟩ = some (.int .u64 f.c.t) ∧ w'.cell? ⟨fb, 10, none⟩ = some (.bool f.c.app) ∧ w'.cell? ⟨fb, 5, none⟩ = some (.int .u64 f.c.code)) (by kernel_rfl) ?_
  change wpAnyH _ _ _ _ _ _ _ _ (World.drew _)
  have hS : (fun w' : World => w'.cell? ⟨fb, 0, none⟩ = some (.int .u64 f.c.t) ∧ w'.cell? ⟨fb, 10, none⟩ = some (.bool f.c.app) ∧ w'.cell? ⟨fb, 5, none⟩ = some (.int .u64 f.c.code)) w1.drew := ⟨HL1.out.cell 0, HL1.out.cell 10, HL1.out.cell 5⟩
  refine tH (i := 0) (v := ?_) rfl ?_ hS ?_
  rotate_left
  ·intro wz ⟨_, _, _⟩; go_simp; try with_reducible rfl
  refine tH (i := 1) (v := ?_) rfl ?_ hS ?_
  rotate_left
  ·intro wz ⟨_, _, _⟩; go_simp; try with_reducible rfl
  refine tH (i := 2) (v := ?_) rfl ?_ hS ?_
  rotate_left
  ·intro wz ⟨_, _, _⟩; go_simp; try with_reducible rfl
  refine tH (i := 3) (v := ?_) rfl ?_ hS ?_
  rotate_left
  ·intro wz ⟨_, _, _⟩; go_simp; try with_reducible rfl
  refine tH (i := 4) (v := ?_) rfl ?_ hS ?_
  rotate_left
  ·intro wz ⟨_, _, _⟩; go_simp; try with_reducible rfl
  refine tH (i := 6) (v := ?_) rfl ?_ hS ?_
  rotate_left
  ·intro wz ⟨_, _, _⟩; go_simp; try with_reducible rfl
  refine tH (i := 7) (v := ?_) rfl ?_ hS ?_
  rotate_left
  ·intro wz ⟨_, _, _⟩; go_simp; try with_reducible rfl
  refine held_call (i := 5) 57 #[.int .u64 f.c.t, .bool f.c.app] rfl (by kernel_rfl) (by kernel_rfl) ?_ ?_
  ·go_simp; try with_reducible rfl
  refine (flag_any f.c.t f.c.app w1.drew ht0 (by omega)).mono ?_
  rintro e w' ⟨rfl, rfl⟩
  refine ⟨_, rfl, hS, ?_⟩
  have hSa : (fun w' : World => w'.cell? ⟨fb, 0, none⟩ = some (.int .u64 f.c.t) ∧ w'.cell? ⟨fb, 10, none⟩ = some (.bool f.c.app) ∧ w'.cell? ⟨fb, 5, none⟩ = some (.int .u64 f.c.code)) (w1.drew.alloc (.cells #[.int .u64 (f.c.t + b2i f.c.app), .int .u64 f.c.code] 29 (0, 0))) := ⟨((HKd.out.alloc _).blk HL1.out (fun h => h)).cell 0, ((HKd.out.alloc _).blk HL1.out (fun h => h)).cell 10, ((HKd.out.alloc _).blk HL1.out (fun h => h)).cell 5⟩
  refine held_do (i := 8) (.slice (some ⟨w1.heap.size, 0, none⟩) 2 2) (w1.drew.alloc (.cells #[.int .u64 (f.c.t + b2i f.c.app), .int .u64 f.c.code] 29 (0, 0))) rfl (by kernel_rfl) (by kernel_rfl) ?_ hSa ?_
  ·go_simp; try with_reducible rfl
  refine held_callP (i := 9) 37 #[.pointer (some ⟨wb, 0, none⟩), .slice (some ⟨w1.heap.size, 0, none⟩) 2 2] rfl (by kernel_rfl) (by kernel_rfl) ?_ ?_
  ·go_simp; try with_reducible rfl
  refine (nums_new B wb a n c xs #[.int .u64 (f.c.t + b2i f.c.app), .int .u64 f.c.code] 2 [f.c.t + b2i f.c.app, f.c.code] w1.drew HWd.out (Uv.two' w1.drew _ (f.c.t + b2i f.c.app) f.c.code ⟨by omega, by omega⟩ HWF.out.code) (by omega) (by omega) hB1).mono ?_
  rintro e w2 ⟨hk0, hr⟩
  have hk := HKd.out.to.trans hk0
  have hkc := wrS_trans HK1.out HN1.out hk
  cases hv : varsOK [f.c.t + b2i f.c.app, f.c.code] with
  | false =>
   rw [numsO_no hv] at hr
   have hr' : e = .panicked [{ v := stopV, recovered := false }] := hr
   subst hr'
   refine .inr ⟨_, rfl, rfl, ?_⟩
   rw [HE8.out, numsO_no hv, thenO_none]
   exact WrP.panic (Keeps.trans2 HKW.out hkc (fun _ _ h => h))
  | true =>
   rw [numsO_yes hv] at hr
   obtain ⟨rfl, a2, n2, c2, hw2, hn2⟩ := hr
   have HV2 := Lib.hid hv
   have HK2 := Lib.hid hkc
   have HN2 := Lib.hid (wrS_near HN1.out HK1.out (near_to hn2 HKd.out.size))
   have HW2 := Lib.hid hw2
   have HL2 := Lib.hid (HK2.out.blk HL1.out HFR.out)
   have HB2 : Hid (Below B w w2) := Lib.hid (wrS_below HK2.out HB1.out hB1 HW.out.le)
   have hB2 : B ≤ w2.heap.size := by have := HK2.out.size; omega
   have hln2 : n2 ≤ n + 16 := by
    have h1 := hw2.len
    have h2 := HW1.out.len
    have h3 := numsO_len (numsO_yes (xs := xs) hv)
    simp only [List.length_cons, List.length_nil] at h3
    omega
   refine .inl ⟨_, rfl, ⟨HL2.out.cell 0, HL2.out.cell 10, HL2.out.cell 5⟩, ?_⟩
   clear hv hk hk0 hkc hw2 hn2 hS hSa
   refine wpAnyH_done (by kernel_rfl) ?_ _
   refine then_named fun b9 hb9 => ?_
   subst hb9
   have q10 : w2.cell? ⟨fb, 10, none⟩ = some (.bool f.c.app) := HL2.out.cell 10
   have hap : f.c.app = true := HAP.out
   have q8 : w2.cell? ⟨fb, 8, none⟩ = some (.slice f.a f.n f.cap) := HL2.out.cell 8
   go_wp2_with fail
   clear q10 hap
   clear q8
   refine (text_any B wb a2 n2 c2 (xs ++ varsE [f.c.t + b2i f.c.app, f.c.code]) f.a f.n f.cap f.c.xs w2 HW2.out (fun w' h => (HF.out w' (HB2.out.trans h)).b) (by omega) hn8 hB2).mono ?_
   rintro e w9 h
   have HG : Hid (WrP B wb a (encO xs f.c) w e w9) := Lib.hid (by rw [HE8.out, numsO_yes HV2.out, thenO_some]; exact WrP.whole HKW.out HK2.out HN2.out hs1 h)
   rcases h.ends with rfl | rfl
   ·clear h
    go_wp2_with fail
    go_end0
    exact HG.out
   ·clear h
    go_wp2_with fail
    exact ⟨rfl, HG.out⟩
 | false =>
  have HAP := Lib.hid hap
  clear hap
  go_wp2_with fail
  clear q0
  have HE8 : Hid (encO xs f.c = thenO (bindO (numsO xs [f.c.t + b2i f.c.app, f.c.code]) [f.c.off]) (varsE [(f.n : Int)] ++ f.c.xs)) := Lib.hid (by rw [← numsO_append']; exact encO_text (by rw [HT.out]; decide) (l' := [28, f.c.code, f.c.off, (f.c.xs.length : Int)]) (by rw [HPL.out, if_neg (by rw [HAP.out]; simp)]) (by rw [HT.out, HAP.out, HXL.out]; rfl) hn8)
  have hb2 := b2i_bd f.c.app
  have ht0 : 0 ≤ f.c.t := HWF.out.t.1
  have ht1 : f.c.t ≤ 900 := by rw [HT.out]; decide
  have HKd : Hid (Keeps (fun _ => False) w1 w1.drew) := Lib.hid (Keeps.refl _ _).drew
  have HWd := Lib.hid (HW1.out.same HKd.out)
  refine wp_region_held (S := fun w' : World => w'.cell? ⟨fb, 0, none⟩ = some (.int .u64 f.c.t) ∧ w'.cell? ⟨fb, 10, none⟩ = some (.bool f.c.app) ∧ w'.cell? ⟨fb, 5, none⟩ = some (.int .u64 f.c.code)) (by kernel_rfl) ?_
  change wpAnyH _ _ _ _ _ _ _ _ (World.drew _)
  have hS : (fun w' : World => w'.cell? ⟨fb, 0, none⟩ = some (.int .u64 f.c.t) ∧ w'.cell? ⟨fb, 10, none⟩ = some (.bool f.c.app) ∧ w'.cell? ⟨fb, 5, none⟩ = some (.int .u64 f.c.code)) w1.drew := ⟨HL1.out.cell 0, HL1.out.cell 10, HL1.out.cell 5⟩
  refine tH (i := 0) (v := ?_) rfl ?_ hS ?_
  rotate_left
  ·intro wz ⟨_, _, _⟩; go_simp; try with_reducible rfl
  refine tH (i := 1) (v := ?_) rfl ?_ hS ?_
  rotate_left
  ·intro wz ⟨_, _, _⟩; go_simp; try with_reducible rfl
  refine tH (i := 2) (v := ?_) rfl ?_ hS ?_
  rotate_left
  ·intro wz ⟨_, _, _⟩; go_simp; try with_reducible rfl
  refine tH (i := 3) (v := ?_) rfl ?_ hS ?_
  rotate_left
  ·intro wz ⟨_, _, _⟩; go_simp; try with_reducible rfl
  refine tH (i := 4) (v := ?_) rfl ?_ hS ?_
  rotate_left
  ·intro wz ⟨_, _, _⟩; go_simp; try with_reducible rfl
  refine tH (i := 6) (v := ?_) rfl ?_ hS ?_
  rotate_left
  ·intro wz ⟨_, _, _⟩; go_simp; try with_reducible rfl
  refine tH (i := 7) (v := ?_) rfl ?_ hS ?_
  rotate_left
  ·intro wz ⟨_, _, _⟩; go_simp; try with_reducible rfl
  refine held_call (i := 5) 57 #[.int .u64 f.c.t, .bool f.c.app] rfl (by kernel_rfl) (by kernel_rfl) ?_ ?_
  ·go_simp; try with_reducible rfl
  refine (flag_any f.c.t f.c.app w1.drew ht0 (by omega)).mono ?_
  rintro e w' ⟨rfl, rfl⟩
  refine ⟨_, rfl, hS, ?_⟩
  have hSa : (fun w' : World => w'.cell? ⟨fb, 0, none⟩ = some (.int .u64 f.c.t) ∧ w'.cell? ⟨fb, 10, none⟩ = some (.bool f.c.app) ∧ w'.cell? ⟨fb, 5, none⟩ = some (.int .u64 f.c.code)) (w1.drew.alloc (.cells #[.int .u64 (f.c.t + b2i f.c.app), .int .u64 f.c.code] 29 (0, 0))) := ⟨((HKd.out.alloc _).blk HL1.out (fun h => h)).cell 0, ((HKd.out.alloc _).blk HL1.out (fun h => h)).cell 10, ((HKd.out.alloc _).blk HL1.out (fun h => h)).cell 5⟩
  refine held_do (i := 8) (.slice (some ⟨w1.heap.size, 0, none⟩) 2 2) (w1.drew.alloc (.cells #[.int .u64 (f.c.t + b2i f.c.app), .int .u64 f.c.code] 29 (0, 0))) rfl (by kernel_rfl) (by kernel_rfl) ?_ hSa ?_
  ·go_simp; try with_reducible rfl
  refine held_callP (i := 9) 37 #[.pointer (some ⟨wb, 0, none⟩), .slice (some ⟨w1.heap.size, 0, none⟩) 2 2] rfl (by kernel_rfl) (by kernel_rfl) ?_ ?_
  ·go_simp; try with_reducible rfl
  refine (nums_new B wb a n c xs #[.int .u64 (f.c.t + b2i f.c.app), .int .u64 f.c.code] 2 [f.c.t + b2i f.c.app, f.c.code] w1.drew HWd.out (Uv.two' w1.drew _ (f.c.t + b2i f.c.app) f.c.code ⟨by omega, by omega⟩ HWF.out.code) (by omega) (by omega) hB1).mono ?_
  rintro e w2 ⟨hk0, hr⟩
  have hk := HKd.out.to.trans hk0
  have hkc := wrS_trans HK1.out HN1.out hk
  cases hv : varsOK [f.c.t + b2i f.c.app, f.c.code] with
  | false =>
   rw [numsO_no hv] at hr
   have hr' : e = .panicked [{ v := stopV, recovered := false }] := hr
   subst hr'
   refine .inr ⟨_, rfl, rfl, ?_⟩
   rw [HE8.out, numsO_no hv, bindO_none, thenO_none]
   exact WrP.panic (Keeps.trans2 HKW.out hkc (fun _ _ h => h))
  | true =>
   rw [numsO_yes hv] at hr
   obtain ⟨rfl, a2, n2, c2, hw2, hn2⟩ := hr
   have HV2 := Lib.hid hv
   have HK2 := Lib.hid hkc
   have HN2 := Lib.hid (wrS_near HN1.out HK1.out (near_to hn2 HKd.out.size))
   have HW2 := Lib.hid hw2
   have HL2 := Lib.hid (HK2.out.blk HL1.out HFR.out)
   have HB2 : Hid (Below B w w2) := Lib.hid (wrS_below HK2.out HB1.out hB1 HW.out.le)
   have hB2 : B ≤ w2.heap.size := by have := HK2.out.size; omega
   have hln2 : n2 ≤ n + 16 := by
    have h1 := hw2.len
    have h2 := HW1.out.len
    have h3 := numsO_len (numsO_yes (xs := xs) hv)
    simp only [List.length_cons, List.length_nil] at h3
    omega
   refine .inl ⟨_, rfl, ⟨HL2.out.cell 0, HL2.out.cell 10, HL2.out.cell 5⟩, ?_⟩
   clear hv hk hk0 hkc hw2 hn2 hS hSa
   refine wpAnyH_done (by kernel_rfl) ?_ _
   refine then_named fun b9 hb9 => ?_
   subst hb9
   have q10 : w2.cell? ⟨fb, 10, none⟩ = some (.bool f.c.app) := HL2.out.cell 10
   have hap : f.c.app = false := HAP.out
   have q2 : w2.cell? ⟨fb, 2, none⟩ = some (.int .u64 f.c.off) := HL2.out.cell 2
   go_wp2_with fail
   clear q10 hap
   clear q2
   refine (nums_new B wb a2 n2 c2 (xs ++ varsE [f.c.t + b2i f.c.app, f.c.code]) _ 1 [f.c.off] w2 HW2.out (Uv.one' w2 _ f.c.off HWF.out.off) (by omega) (by omega) hB2).mono ?_
   rintro e w3 ⟨hk, hr⟩
   cases hv : varsOK [f.c.off] with
   | false =>
    rw [numsO_no hv] at hr
    have hr' : e = .panicked [{ v := stopV, recovered := false }] := hr
    subst hr'
    have HV := Lib.hid hv
    have HK3 := Lib.hid (wrS_trans HK2.out HN2.out hk)
    clear hv hr hk
    go_wp2_with fail
    refine ⟨rfl, ?_⟩
    rw [HE8.out, numsO_yes HV2.out, bindO_some, numsO_no HV.out, thenO_none]
    exact WrP.panic (Keeps.trans2 HKW.out HK3.out (fun _ _ h => h))
   | true =>
    rw [numsO_yes hv] at hr
    obtain ⟨rfl, a3, n3, c3, hw3, hn3⟩ := hr
    have HV3 := Lib.hid hv
    have HK3 := Lib.hid (wrS_trans HK2.out HN2.out hk)
    have HN3 := Lib.hid (wrS_near HN2.out HK2.out hn3)
    have HW3 := Lib.hid hw3
    have HL3 := Lib.hid (HK3.out.blk HL1.out HFR.out)
    have HB3 : Hid (Below B w w3) := Lib.hid (wrS_below HK3.out HB1.out hB1 HW.out.le)
    have hB3 : B ≤ w3.heap.size := by have := HK3.out.size; omega
    have hln3 : n3 ≤ n2 + 8 := by
     have h1 := hw3.len
     have h2 := HW2.out.len
     have h3 := numsO_len (numsO_yes (xs := (xs ++ varsE [f.c.t + b2i f.c.app, f.c.code])) hv)
     simp only [List.length_cons, List.length_nil] at h3
     omega
    clear hv hk hw3 hn3
    have q8 : w3.cell? ⟨fb, 8, none⟩ = some (.slice f.a f.n f.cap) := HL3.out.cell 8
    go_wp2_with fail
    clear q8
    refine (text_any B wb a3 n3 c3 ((xs ++ varsE [f.c.t + b2i f.c.app, f.c.code]) ++ varsE [f.c.off]) f.a f.n f.cap f.c.xs w3 HW3.out (fun w' h => (HF.out w' (HB3.out.trans h)).b) (by omega) hn8 hB3).mono ?_
    rintro e w9 h
    have HG : Hid (WrP B wb a (encO xs f.c) w e w9) := Lib.hid (by rw [HE8.out, numsO_yes HV2.out, bindO_some, numsO_yes HV3.out, thenO_some]; exact WrP.whole HKW.out HK3.out HN3.out hs1 h)
    rcases h.ends with rfl | rfl
    ·clear h
     go_wp2_with fail
     go_end0
     exact HG.out
    ·clear h
     go_wp2_with fail
     exact ⟨rfl, HG.out⟩

set_option maxRecDepth 100000 in
set_option maxHeartbeats 3200000 in
theorem other_no (B wb : Nat) (a : Option Addr) (n c : Nat) (xs : List UInt8) (f : Qf) (w : World) (hw : Wr B w wb a n c xs) (hf : ∀ w', Below B w w' → Qin w' f) (ht0 : f.c.t ≠ 0) (ht : f.c.t ∉ typesQ) (hn : n ≤ 10000000) (hn8 : f.n ≤ 1000000) (hB : B ≤ w.heap.size) :
  Calls Try.prog 42 #[.pointer (some ⟨wb, 0, none⟩), .agg f.cs] w (WrP B wb a (encO xs f.c) w) := by
 have HW := Lib.hid hw
 have HF := Lib.hid hf
 have HWF := Lib.hid (hf w (Below.refl _ _)).wf
 have HXL := Lib.hid (hf w (Below.refl _ _)).b.1
 have HK0 : Hid (Keeps (fun _ => False) w (w.alloc (.cells f.cs 32 (0, 0)))) := Lib.hid ((Keeps.refl _ w).alloc _)
 have HL1 := Lib.hid (Blk.new w f.cs 32)
 clear hw hf
 have HPL := Lib.hid (plan_no ht)
 have HT0 := Lib.hid ht0
 have e16 : (f.c.t == 16) = false := by have h : f.c.t ≠ 16 := fun e => ht (by rw [e]; decide); simpa using h
 have e20 : (f.c.t == 20) = false := by have h : f.c.t ≠ 20 := fun e => ht (by rw [e]; decide); simpa using h
 have e17 : (f.c.t == 17) = false := by have h : f.c.t ≠ 17 := fun e => ht (by rw [e]; decide); simpa using h
 have e21 : (f.c.t == 21) = false := by have h : f.c.t ≠ 21 := fun e => ht (by rw [e]; decide); simpa using h
 have e18 : (f.c.t == 18) = false := by have h : f.c.t ≠ 18 := fun e => ht (by rw [e]; decide); simpa using h
 have e22 : (f.c.t == 22) = false := by have h : f.c.t ≠ 22 := fun e => ht (by rw [e]; decide); simpa using h
 have e24 : (f.c.t == 24) = false := by have h : f.c.t ≠ 24 := fun e => ht (by rw [e]; decide); simpa using h
 have e25 : (f.c.t == 25) = false := by have h : f.c.t ≠ 25 := fun e => ht (by rw [e]; decide); simpa using h
 have e26 : (f.c.t == 26) = false := by have h : f.c.t ≠ 26 := fun e => ht (by rw [e]; decide); simpa using h
 have e27 : (f.c.t == 27) = false := by have h : f.c.t ≠ 27 := fun e => ht (by rw [e]; decide); simpa using h
 have e28 : (f.c.t == 28) = false := by have h : f.c.t ≠ 28 := fun e => ht (by rw [e]; decide); simpa using h
 clear ht ht0
 unfold Qf.cs at HK0 HL1 ⊢
 have HW1 := Lib.hid (HW.out.same HK0.out)
 go_enter Try.func42, Try.ntmps42
 go_upto_region 1 with fail
 refine wp_named ?_
 intro w1 hw1
 rw [hw1] at HK0 HL1 HW1
 have hs1 : w.heap.size ≤ w1.heap.size := HK0.out.size
 have HFR : Hid (¬ wrS B wb a w.heap.size) := Lib.hid (HW.out.fresh (Nat.le_refl _))
 have HB1 : Hid (Below B w w1) := Lib.hid (Keeps.below (Below.refl B w) HK0.out hB (fun _ h => False.elim h))
 have HK1 : Hid (Keeps (wrS B wb a) w1 w1) := Lib.hid (Keeps.refl _ _)
 have HN1 : Hid (Near B w1 a a) := Lib.hid (Near.refl B w1 a)
 have HKW : Hid (Keeps (wrS B wb a) w w1) := Lib.hid HK0.out.to
 clear hw1
 generalize w.heap.size = fb at *
 have hB1 : B ≤ w1.heap.size := by omega
 have q0 : w1.cell? ⟨fb, 0, none⟩ = some (.int .u64 f.c.t) := HL1.out.cell 0
 go_wp2_with fail
 refine (must_no w1).mono ?_
 rintro e w' ⟨rfl, rfl⟩
 go_wp2_with fail
 refine ⟨rfl, ?_⟩
 rw [encO_no HT0.out HPL.out]
 exact WrP.panic (Keeps.trans2 HKW.out HK1.out (fun _ _ h => h))

end Go.Proofs.Ytgfkgmmigbpciaa
