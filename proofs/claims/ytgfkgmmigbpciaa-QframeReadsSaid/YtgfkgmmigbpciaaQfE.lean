/- The writer of the package qframe: other, numbers alone. -/
import Derived.Test.YtgfkgmmigbpciaaQfD
namespace Go.Proofs.Ytgfkgmmigbpciaa
set_option linter.unusedSimpArgs false
set_option linter.unusedVariables false
open Go.RowKit Go.Deep

set_option maxRecDepth 100000 in
set_option maxHeartbeats 3200000 in
theorem other_16 (B wb : Nat) (a : Option Addr) (n c : Nat) (xs : List UInt8) (f : Qf) (w : World) (hw : Wr B w wb a n c xs) (hf : ∀ w', Below B w w' → Qin w' f) (ht : f.c.t = 16) (hn : n ≤ 10000000) (hn8 : f.n ≤ 1000000) (hB : B ≤ w.heap.size) :
  Calls Try.prog 42 #[.pointer (some ⟨wb, 0, none⟩), .agg f.cs] w (WrP B wb a (encO xs f.c) w) := by
 have HW := Lib.hid hw
 have HF := Lib.hid hf
 have HWF := Lib.hid (hf w (Below.refl _ _)).wf
 have HXL := Lib.hid (hf w (Below.refl _ _)).b.1
 have HK0 : Hid (Keeps (fun _ => False) w (w.alloc (.cells f.cs 32 (0, 0)))) := Lib.hid ((Keeps.refl _ w).alloc _)
 have HL1 := Lib.hid (Blk.new w f.cs 32)
 clear hw hf
 have HT := Lib.hid ht
 have e16 : (f.c.t == 16) = true := by simp [ht]
 have HPL := Lib.hid (plan_16 ht)
 clear ht
 unfold Qf.cs at HK0 HL1 ⊢
 have HW1 := Lib.hid (HW.out.same HK0.out)
 go_enter Try.func42, Try.ntmps42
 go_upto_region 1 with fail
 refine wp_named ?_
 intro w1 hw1
 rw [hw1] at HK0 HL1 HW1
 have hs1 : w.heap.size ≤ w1.heap.size := HK0.out.size
 have HFR : Hid (¬ wrS B wb a w.heap.size) := Lib.hid (HW.out.fresh (Nat.le_refl _))
 have HB1 : Hid (Below B w w1) := Lib.hid (Keeps.below (Below.refl B w) HK0.out hB (fun _ h => False.elim h))
 have HK1 : Hid (Keeps (wrS B wb a) w1 w1) := Lib.hid (Keeps.refl _ _)
 have HN1 : Hid (Near B w1 a a) := Lib.hid (Near.refl B w1 a)
 have HKW : Hid (Keeps (wrS B wb a) w w1) := Lib.hid HK0.out.to
 clear hw1
 generalize w.heap.size = fb at *
 have hB1 : B ≤ w1.heap.size := by omega
 have q0 : w1.cell? ⟨fb, 0, none⟩ = some (.int .u64 f.c.t) := HL1.out.cell 0
 have q4 : w1.cell? ⟨fb, 4, none⟩ = some (.int .u64 f.c.mx) := HL1.out.cell 4
 go_wp2_with fail
 clear q0 q4
 refine (nums_new B wb a n c xs _ 2 [f.c.t, f.c.mx] w1 HW1.out (Uv.two' w1 _ f.c.t f.c.mx HWF.out.t HWF.out.mx) (by omega) (by omega) hB1).mono ?_
 rintro e w9 h
 have HG : Hid (WrP B wb a (encO xs f.c) w e w9) := Lib.hid (by rw [encO_nums (by rw [HT.out]; decide) (l := [f.c.t, f.c.mx]) (by rw [HPL.out, HT.out])]; exact WrP.whole HKW.out HK1.out HN1.out hs1 h)
 rcases h.ends with rfl | rfl
 ·clear h
  go_wp2_with fail
  go_end0
  exact HG.out
 ·clear h
  go_wp2_with fail
  exact ⟨rfl, HG.out⟩

set_option maxRecDepth 100000 in
set_option maxHeartbeats 3200000 in
theorem other_20 (B wb : Nat) (a : Option Addr) (n c : Nat) (xs : List UInt8) (f : Qf) (w : World) (hw : Wr B w wb a n c xs) (hf : ∀ w', Below B w w' → Qin w' f) (ht : f.c.t = 20) (hn : n ≤ 10000000) (hn8 : f.n ≤ 1000000) (hB : B ≤ w.heap.size) :
  Calls Try.prog 42 #[.pointer (some ⟨wb, 0, none⟩), .agg f.cs] w (WrP B wb a (encO xs f.c) w) := by
 have HW := Lib.hid hw
 have HF := Lib.hid hf
 have HWF := Lib.hid (hf w (Below.refl _ _)).wf
 have HXL := Lib.hid (hf w (Below.refl _ _)).b.1
 have HK0 : Hid (Keeps (fun _ => False) w (w.alloc (.cells f.cs 32 (0, 0)))) := Lib.hid ((Keeps.refl _ w).alloc _)
 have HL1 := Lib.hid (Blk.new w f.cs 32)
 clear hw hf
 have HT := Lib.hid ht
 have e16 : (f.c.t == 16) = false := by simp [ht]
 have e20 : (f.c.t == 20) = true := by simp [ht]
 have HPL := Lib.hid (plan_20 ht)
 clear ht
 unfold Qf.cs at HK0 HL1 ⊢
 have HW1 := Lib.hid (HW.out.same HK0.out)
 go_enter Try.func42, Try.ntmps42
 go_upto_region 1 with fail
 refine wp_named ?_
 intro w1 hw1
 rw [hw1] at HK0 HL1 HW1
 have hs1 : w.heap.size ≤ w1.heap.size := HK0.out.size
 have HFR : Hid (¬ wrS B wb a w.heap.size) := Lib.hid (HW.out.fresh (Nat.le_refl _))
 have HB1 : Hid (Below B w w1) := Lib.hid (Keeps.below (Below.refl B w) HK0.out hB (fun _ h => False.elim h))
 have HK1 : Hid (Keeps (wrS B wb a) w1 w1) := Lib.hid (Keeps.refl _ _)
 have HN1 : Hid (Near B w1 a a) := Lib.hid (Near.refl B w1 a)
 have HKW : Hid (Keeps (wrS B wb a) w w1) := Lib.hid HK0.out.to
 clear hw1
 generalize w.heap.size = fb at *
 have hB1 : B ≤ w1.heap.size := by omega
 have q0 : w1.cell? ⟨fb, 0, none⟩ = some (.int .u64 f.c.t) := HL1.out.cell 0
 have q4 : w1.cell? ⟨fb, 4, none⟩ = some (.int .u64 f.c.mx) := HL1.out.cell 4
 go_wp2_with fail
 clear q0 q4
 refine (nums_new B wb a n c xs _ 2 [f.c.t, f.c.mx] w1 HW1.out (Uv.two' w1 _ f.c.t f.c.mx HWF.out.t HWF.out.mx) (by omega) (by omega) hB1).mono ?_
 rintro e w9 h
 have HG : Hid (WrP B wb a (encO xs f.c) w e w9) := Lib.hid (by rw [encO_nums (by rw [HT.out]; decide) (l := [f.c.t, f.c.mx]) (by rw [HPL.out, HT.out])]; exact WrP.whole HKW.out HK1.out HN1.out hs1 h)
 rcases h.ends with rfl | rfl
 ·clear h
  go_wp2_with fail
  go_end0
  exact HG.out
 ·clear h
  go_wp2_with fail
  exact ⟨rfl, HG.out⟩

set_option maxRecDepth 100000 in
set_option maxHeartbeats 3200000 in
theorem other_17 (B wb : Nat) (a : Option Addr) (n c : Nat) (xs : List UInt8) (f : Qf) (w : World) (hw : Wr B w wb a n c xs) (hf : ∀ w', Below B w w' → Qin w' f) (ht : f.c.t = 17) (hn : n ≤ 10000000) (hn8 : f.n ≤ 1000000) (hB : B ≤ w.heap.size) :
  Calls Try.prog 42 #[.pointer (some ⟨wb, 0, none⟩), .agg f.cs] w (WrP B wb a (encO xs f.c) w) := by
 have HW := Lib.hid hw
 have HF := Lib.hid hf
 have HWF := Lib.hid (hf w (Below.refl _ _)).wf
 have HXL := Lib.hid (hf w (Below.refl _ _)).b.1
 have HK0 : Hid (Keeps (fun _ => False) w (w.alloc (.cells f.cs 32 (0, 0)))) := Lib.hid ((Keeps.refl _ w).alloc _)
 have HL1 := Lib.hid (Blk.new w f.cs 32)
 clear hw hf
 have HT := Lib.hid ht
 have e16 : (f.c.t == 16) = false := by simp [ht]
 have e20 : (f.c.t == 20) = false := by simp [ht]
 have e17 : (f.c.t == 17) = true := by simp [ht]
 have HPL := Lib.hid (plan_17 ht)
 clear ht
 unfold Qf.cs at HK0 HL1 ⊢
 have HW1 := Lib.hid (HW.out.same HK0.out)
 go_enter Try.func42, Try.ntmps42
 go_upto_region 1 with fail
 refine wp_named ?_
 intro w1 hw1
 rw [hw1] at HK0 HL1 HW1
 have hs1 : w.heap.size ≤ w1.heap.size := HK0.out.size
 have HFR : Hid (¬ wrS B wb a w.heap.size) := Lib.hid (HW.out.fresh (Nat.le_refl _))
 have HB1 : Hid (Below B w w1) := Lib.hid (Keeps.below (Below.refl B w) HK0.out hB (fun _ h => False.elim h))
 have HK1 : Hid (Keeps (wrS B wb a) w1 w1) := Lib.hid (Keeps.refl _ _)
 have HN1 : Hid (Near B w1 a a) := Lib.hid (Near.refl B w1 a)
 have HKW : Hid (Keeps (wrS B wb a) w w1) := Lib.hid HK0.out.to
 clear hw1
 generalize w.heap.size = fb at *
 have hB1 : B ≤ w1.heap.size := by omega
 have q0 : w1.cell? ⟨fb, 0, none⟩ = some (.int .u64 f.c.t) := HL1.out.cell 0
 have q1 : w1.cell? ⟨fb, 1, none⟩ = some (.int .u64 f.c.id) := HL1.out.cell 1
 have q4 : w1.cell? ⟨fb, 4, none⟩ = some (.int .u64 f.c.mx) := HL1.out.cell 4
 go_wp2_with fail
 clear q0 q1 q4
 refine (nums_new B wb a n c xs _ 3 [f.c.t, f.c.id, f.c.mx] w1 HW1.out (Uv.three w1 _ f.c.t f.c.id f.c.mx HWF.out.t HWF.out.id HWF.out.mx) (by omega) (by omega) hB1).mono ?_
 rintro e w9 h
 have HG : Hid (WrP B wb a (encO xs f.c) w e w9) := Lib.hid (by rw [encO_nums (by rw [HT.out]; decide) (l := [f.c.t, f.c.id, f.c.mx]) (by rw [HPL.out, HT.out])]; exact WrP.whole HKW.out HK1.out HN1.out hs1 h)
 rcases h.ends with rfl | rfl
 ·clear h
  go_wp2_with fail
  go_end0
  exact HG.out
 ·clear h
  go_wp2_with fail
  exact ⟨rfl, HG.out⟩

set_option maxRecDepth 100000 in
set_option maxHeartbeats 3200000 in
theorem other_21 (B wb : Nat) (a : Option Addr) (n c : Nat) (xs : List UInt8) (f : Qf) (w : World) (hw : Wr B w wb a n c xs) (hf : ∀ w', Below B w w' → Qin w' f) (ht : f.c.t = 21) (hn : n ≤ 10000000) (hn8 : f.n ≤ 1000000) (hB : B ≤ w.heap.size) :
  Calls Try.prog 42 #[.pointer (some ⟨wb, 0, none⟩), .agg f.cs] w (WrP B wb a (encO xs f.c) w) := by
 have HW := Lib.hid hw
 have HF := Lib.hid hf
 have HWF := Lib.hid (hf w (Below.refl _ _)).wf
 have HXL := Lib.hid (hf w (Below.refl _ _)).b.1
 have HK0 : Hid (Keeps (fun _ => False) w (w.alloc (.cells f.cs 32 (0, 0)))) := Lib.hid ((Keeps.refl _ w).alloc _)
 have HL1 := Lib.hid (Blk.new w f.cs 32)
 clear hw hf
 have HT := Lib.hid ht
 have e16 : (f.c.t == 16) = false := by simp [ht]
 have e20 : (f.c.t == 20) = false := by simp [ht]
 have e17 : (f.c.t == 17) = false := by simp [ht]
 have e21 : (f.c.t == 21) = true := by simp [ht]
 have HPL := Lib.hid (plan_21 ht)
 clear ht
 unfold Qf.cs at HK0 HL1 ⊢
 have HW1 := Lib.hid (HW.out.same HK0.out)
 go_enter Try.func42, Try.ntmps42
 go_upto_region 1 with fail
 refine wp_named ?_
 intro w1 hw1
 rw [hw1] at HK0 HL1 HW1
 have hs1 : w.heap.size ≤ w1.heap.size := HK0.out.size
 have HFR : Hid (¬ wrS B wb a w.heap.size) := Lib.hid (HW.out.fresh (Nat.le_refl _))
 have HB1 : Hid (Below B w w1) := Lib.hid (Keeps.below (Below.refl B w) HK0.out hB (fun _ h => False.elim h))
 have HK1 : Hid (Keeps (wrS B wb a) w1 w1) := Lib.hid (Keeps.refl _ _)
 have HN1 : Hid (Near B w1 a a) := Lib.hid (Near.refl B w1 a)
 have HKW : Hid (Keeps (wrS B wb a) w w1) := Lib.hid HK0.out.to
 clear hw1
 generalize w.heap.size = fb at *
 have hB1 : B ≤ w1.heap.size := by omega
 have q0 : w1.cell? ⟨fb, 0, none⟩ = some (.int .u64 f.c.t) := HL1.out.cell 0
 have q1 : w1.cell? ⟨fb, 1, none⟩ = some (.int .u64 f.c.id) := HL1.out.cell 1
 have q4 : w1.cell? ⟨fb, 4, none⟩ = some (.int .u64 f.c.mx) := HL1.out.cell 4
 go_wp2_with fail
 clear q0 q1 q4
 refine (nums_new B wb a n c xs _ 3 [f.c.t, f.c.id, f.c.mx] w1 HW1.out (Uv.three w1 _ f.c.t f.c.id f.c.mx HWF.out.t HWF.out.id HWF.out.mx) (by omega) (by omega) hB1).mono ?_
 rintro e w9 h
 have HG : Hid (WrP B wb a (encO xs f.c) w e w9) := Lib.hid (by rw [encO_nums (by rw [HT.out]; decide) (l := [f.c.t, f.c.id, f.c.mx]) (by rw [HPL.out, HT.out])]; exact WrP.whole HKW.out HK1.out HN1.out hs1 h)
 rcases h.ends with rfl | rfl
 ·clear h
  go_wp2_with fail
  go_end0
  exact HG.out
 ·clear h
  go_wp2_with fail
  exact ⟨rfl, HG.out⟩

set_option maxRecDepth 100000 in
set_option maxHeartbeats 3200000 in
theorem other_25 (B wb : Nat) (a : Option Addr) (n c : Nat) (xs : List UInt8) (f : Qf) (w : World) (hw : Wr B w wb a n c xs) (hf : ∀ w', Below B w w' → Qin w' f) (ht : f.c.t = 25) (hn : n ≤ 10000000) (hn8 : f.n ≤ 1000000) (hB : B ≤ w.heap.size) :
  Calls Try.prog 42 #[.pointer (some ⟨wb, 0, none⟩), .agg f.cs] w (WrP B wb a (encO xs f.c) w) := by
 have HW := Lib.hid hw
 have HF := Lib.hid hf
 have HWF := Lib.hid (hf w (Below.refl _ _)).wf
 have HXL := Lib.hid (hf w (Below.refl _ _)).b.1
 have HK0 : Hid (Keeps (fun _ => False) w (w.alloc (.cells f.cs 32 (0, 0)))) := Lib.hid ((Keeps.refl _ w).alloc _)
 have HL1 := Lib.hid (Blk.new w f.cs 32)
 clear hw hf
 have HT := Lib.hid ht
 have e16 : (f.c.t == 16) = false := by simp [ht]
 have e20 : (f.c.t == 20) = false := by simp [ht]
 have e17 : (f.c.t == 17) = false := by simp [ht]
 have e21 : (f.c.t == 21) = false := by simp [ht]
 have e18 : (f.c.t == 18) = false := by simp [ht]
 have e22 : (f.c.t == 22) = false := by simp [ht]
 have e24 : (f.c.t == 24) = false := by simp [ht]
 have e25 : (f.c.t == 25) = true := by simp [ht]
 have HPL := Lib.hid (plan_25 ht)
 clear ht
 unfold Qf.cs at HK0 HL1 ⊢
 have HW1 := Lib.hid (HW.out.same HK0.out)
 go_enter Try.func42, Try.ntmps42
 go_upto_region 1 with fail
 refine wp_named ?_
 intro w1 hw1
 rw [hw1] at HK0 HL1 HW1
 have hs1 : w.heap.size ≤ w1.heap.size := HK0.out.size
 have HFR : Hid (¬ wrS B wb a w.heap.size) := Lib.hid (HW.out.fresh (Nat.le_refl _))
 have HB1 : Hid (Below B w w1) := Lib.hid (Keeps.below (Below.refl B w) HK0.out hB (fun _ h => False.elim h))
 have HK1 : Hid (Keeps (wrS B wb a) w1 w1) := Lib.hid (Keeps.refl _ _)
 have HN1 : Hid (Near B w1 a a) := Lib.hid (Near.refl B w1 a)
 have HKW : Hid (Keeps (wrS B wb a) w w1) := Lib.hid HK0.out.to
 clear hw1
 generalize w.heap.size = fb at *
 have hB1 : B ≤ w1.heap.size := by omega
 have q0 : w1.cell? ⟨fb, 0, none⟩ = some (.int .u64 f.c.t) := HL1.out.cell 0
 have q1 : w1.cell? ⟨fb, 1, none⟩ = some (.int .u64 f.c.id) := HL1.out.cell 1
 go_wp2_with fail
 clear q0 q1
 refine (nums_new B wb a n c xs _ 2 [f.c.t, f.c.id] w1 HW1.out (Uv.two' w1 _ f.c.t f.c.id HWF.out.t HWF.out.id) (by omega) (by omega) hB1).mono ?_
 rintro e w9 h
 have HG : Hid (WrP B wb a (encO xs f.c) w e w9) := Lib.hid (by rw [encO_nums (by rw [HT.out]; decide) (l := [f.c.t, f.c.id]) (by rw [HPL.out, HT.out])]; exact WrP.whole HKW.out HK1.out HN1.out hs1 h)
 rcases h.ends with rfl | rfl
 ·clear h
  go_wp2_with fail
  go_end0
  exact HG.out
 ·clear h
  go_wp2_with fail
  exact ⟨rfl, HG.out⟩

set_option maxRecDepth 100000 in
set_option maxHeartbeats 3200000 in
theorem other_18 (B wb : Nat) (a : Option Addr) (n c : Nat) (xs : List UInt8) (f : Qf) (w : World) (hw : Wr B w wb a n c xs) (hf : ∀ w', Below B w w' → Qin w' f) (ht : f.c.t = 18) (hn : n ≤ 10000000) (hn8 : f.n ≤ 1000000) (hB : B ≤ w.heap.size) :
  Calls Try.prog 42 #[.pointer (some ⟨wb, 0, none⟩), .agg f.cs] w (WrP B wb a (encO xs f.c) w) := by
 have HW := Lib.hid hw
 have HF := Lib.hid hf
 have HWF := Lib.hid (hf w (Below.refl _ _)).wf
 have HXL := Lib.hid (hf w (Below.refl _ _)).b.1
 have HK0 : Hid (Keeps (fun _ => False) w (w.alloc (.cells f.cs 32 (0, 0)))) := Lib.hid ((Keeps.refl _ w).alloc _)
 have HL1 := Lib.hid (Blk.new w f.cs 32)
 clear hw hf
 have HT := Lib.hid ht
 have e16 : (f.c.t == 16) = false := by simp [ht]
 have e20 : (f.c.t == 20) = false := by simp [ht]
 have e17 : (f.c.t == 17) = false := by simp [ht]
 have e21 : (f.c.t == 21) = false := by simp [ht]
 have e18 : (f.c.t == 18) = true := by simp [ht]
 have HPL := Lib.hid (plan_18 ht)
 clear ht
 unfold Qf.cs at HK0 HL1 ⊢
 have HW1 := Lib.hid (HW.out.same HK0.out)
 go_enter Try.func42, Try.ntmps42
 go_upto_region 1 with fail
 refine wp_named ?_
 intro w1 hw1
 rw [hw1] at HK0 HL1 HW1
 have hs1 : w.heap.size ≤ w1.heap.size := HK0.out.size
 have HFR : Hid (¬ wrS B wb a w.heap.size) := Lib.hid (HW.out.fresh (Nat.le_refl _))
 have HB1 : Hid (Below B w w1) := Lib.hid (Keeps.below (Below.refl B w) HK0.out hB (fun _ h => False.elim h))
 have HK1 : Hid (Keeps (wrS B wb a) w1 w1) := Lib.hid (Keeps.refl _ _)
 have HN1 : Hid (Near B w1 a a) := Lib.hid (Near.refl B w1 a)
 have HKW : Hid (Keeps (wrS B wb a) w w1) := Lib.hid HK0.out.to
 clear hw1
 generalize w.heap.size = fb at *
 have hB1 : B ≤ w1.heap.size := by omega
 have q0 : w1.cell? ⟨fb, 0, none⟩ = some (.int .u64 f.c.t) := HL1.out.cell 0
 have q4 : w1.cell? ⟨fb, 4, none⟩ = some (.int .u64 f.c.mx) := HL1.out.cell 4
 by_cases hm : f.c.mx ≤ 1152921504606846976
 ·have hmd : decide (f.c.mx ≤ 1152921504606846976) = true := decide_eq_true hm
  have HM := Lib.hid hm
  clear hm
  go_wp2_with fail
  refine (must_ok w1).mono ?_
  rintro e w' ⟨rfl, rfl⟩
  have HE8 : Hid (encO xs f.c = numsO xs [f.c.t + b2i f.c.uni, f.c.mx]) := Lib.hid (encO_nums (by rw [HT.out]; decide) (by rw [HPL.out, if_pos HM.out, HT.out]))
  clear hmd q0 q4
  go_wp2_with fail
  have hb2 := b2i_bd f.c.uni
  have ht0 : 0 ≤ f.c.t := HWF.out.t.1
  have ht1 : f.c.t ≤ 900 := by rw [HT.out]; decide
  have HKd : Hid (Keeps (fun _ => False) w1 w1.drew) := Lib.hid (Keeps.refl _ _).drew
  have HWd := Lib.hid (HW1.out.same HKd.out)
  refine wp_region_held (S := fun w' : World => w'.cell? ⟨fb, 0, none⟩ = some (.int .u64 f.c.t) ∧ w'.cell? ⟨fb, 9, none⟩ = some (.bool f.c.uni) ∧ w'.cell? ⟨fb, 4, none⟩ = some (.int .u64 f.c.mx)) (by kernel_rfl) ?_
  change wpAnyH _ _ _ _ _ _ _ _ (World.drew _)
  have hS : (fun w' : World => w'.cell? ⟨fb, 0, none⟩ = some (.int .u64 f.c.t) ∧ w'.cell? ⟨fb, 9, none⟩ = some (.bool f.c.uni) ∧ w'.cell? ⟨fb, 4, none⟩ = some (.int .u64 f.c.mx)) w1.drew := ⟨HL1.out.cell 0, HL1.out.cell 9, HL1.out.cell 4⟩
  refine tH (i := 0) (v := ?_) rfl ?_ hS ?_
  rotate_left
  ·intro wz ⟨_, _, _⟩; go_simp; try with_reducible rfl
  refine tH (i := 1) (v := ?_) rfl ?_ hS ?_
  rotate_left
  ·intro wz ⟨_, _, _⟩; go_simp; try with_reducible rfl
  refine tH (i := 2) (v := ?_) rfl ?_ hS ?_
  rotate_left
  ·intro wz ⟨_, _, _⟩; go_simp; try with_reducible rfl
  refine tH (i := 3) (v := ?_) rfl ?_ hS ?_
  rotate_left
  ·intro wz ⟨_, _, _⟩; go_simp; try with_reducible rfl
  refine tH (i := 4) (v := ?_) rfl ?_ hS ?_
  rotate_left
  ·intro wz ⟨_, _, _⟩; go_simp; try with_reducible rfl
  refine tH (i := 6) (v := ?_) rfl ?_ hS ?_
  rotate_left
  ·intro wz ⟨_, _, _⟩; go_simp; try with_reducible rfl
  refine tH (i := 7) (v := ?_) rfl ?_ hS ?_
  rotate_left
  ·intro wz ⟨_, _, _⟩; go_simp; try with_reducible rfl
  refine held_call (i := 5) 57 #[.int .u64 f.c.t, .bool f.c.uni] rfl (by kernel_rfl) (by kernel_rfl) ?_ ?_
  ·go_simp; try with_reducible rfl
  refine (flag_any f.c.t f.c.uni w1.drew ht0 (by omega)).mono ?_
  rintro e w' ⟨rfl, rfl⟩
  refine ⟨_, rfl, hS, ?_⟩
  have hSa : (fun w' : World => w'.cell? ⟨fb, 0, none⟩ = some (.int .u64 f.c.t) ∧ w'.cell? ⟨fb, 9, none⟩ = some (.bool f.c.uni) ∧ w'.cell? ⟨fb, 4, none⟩ = some (.int .u64 f.c.mx)) (w1.drew.alloc (.cells #[.int .u64 (f.c.t + b2i f.c.uni), .int .u64 f.c.mx] 29 (0, 0))) := ⟨((HKd.out.alloc _).blk HL1.out (fun h => h)).cell 0, ((HKd.out.alloc _).blk HL1.out (fun h => h)).cell 9, ((HKd.out.alloc _).blk HL1.out (fun h => h)).cell 4⟩
  refine held_do (i := 8) (.slice (some ⟨w1.heap.size, 0, none⟩) 2 2) (w1.drew.alloc (.cells #[.int .u64 (f.c.t + b2i f.c.uni), .int .u64 f.c.mx] 29 (0, 0))) rfl (by kernel_rfl) (by kernel_rfl) ?_ hSa ?_
  ·go_simp; try with_reducible rfl
  refine held_callP (i := 9) 37 #[.pointer (some ⟨wb, 0, none⟩), .slice (some ⟨w1.heap.size, 0, none⟩) 2 2] rfl (by kernel_rfl) (by kernel_rfl) ?_ ?_
  ·go_simp; try with_reducible rfl
  refine (nums_new B wb a n c xs #[.int .u64 (f.c.t + b2i f.c.uni), .int .u64 f.c.mx] 2 [f.c.t + b2i f.c.uni, f.c.mx] w1.drew HWd.out (Uv.two' w1.drew _ (f.c.t + b2i f.c.uni) f.c.mx ⟨by omega, by omega⟩ HWF.out.mx) (by omega) (by omega) hB1).mono ?_
  rintro e w2 ⟨hk0, hr⟩
  have hk := HKd.out.to.trans hk0
  have hkc := wrS_trans HK1.out HN1.out hk
  cases hv : varsOK [f.c.t + b2i f.c.uni, f.c.mx] with
  | false =>
   rw [numsO_no hv] at hr
   have hr' : e = .panicked [{ v := stopV, recovered := false }] := hr
   subst hr'
   refine .inr ⟨_, rfl, rfl, ?_⟩
   rw [HE8.out, numsO_no hv]
   exact WrP.panic (Keeps.trans2 HKW.out hkc (fun _ _ h => h))
  | true =>
   rw [numsO_yes hv] at hr
   obtain ⟨rfl, a2, n2, c2, hw2, hn2⟩ := hr
   have HV2 := Lib.hid hv
   have HK2 := Lib.hid hkc
   have HN2 := Lib.hid (wrS_near HN1.out HK1.out (near_to hn2 HKd.out.size))
   have HW2 := Lib.hid hw2
   have HL2 := Lib.hid (HK2.out.blk HL1.out HFR.out)
   have HB2 : Hid (Below B w w2) := Lib.hid (wrS_below HK2.out HB1.out hB1 HW.out.le)
   have hB2 : B ≤ w2.heap.size := by have := HK2.out.size; omega
   have hln2 : n2 ≤ n + 16 := by
    have h1 := hw2.len
    have h2 := HW1.out.len
    have h3 := numsO_len (numsO_yes (xs := xs) hv)
    simp only [List.length_cons, List.length_nil] at h3
    omega
   refine .inl ⟨_, rfl, ⟨HL2.out.cell 0, HL2.out.cell 9, HL2.out.cell 4⟩, ?_⟩
   clear hv hk hk0 hkc hw2 hn2 hS hSa
   refine wpAnyH_done (by kernel_rfl) ?_ _
   refine ⟨by kernel_rfl, .tuple #[], by simp [results, Try.results42, go_sem], ?_⟩
   rw [HE8.out, numsO_yes HV2.out]
   exact ⟨Keeps.trans2 HKW.out HK2.out (fun _ _ h => h), rfl, a2, n2, c2, HW2.out, near_to HN2.out HKW.out.size⟩
 ·have hmd : decide (f.c.mx ≤ 1152921504606846976) = false := decide_eq_false hm
  have HM := Lib.hid hm
  clear hm
  go_wp2_with fail
  refine (must_no w1).mono ?_
  rintro e w' ⟨rfl, rfl⟩
  go_wp2_with fail
  refine ⟨rfl, ?_⟩
  rw [encO_no (by rw [HT.out]; decide) (by rw [HPL.out, if_neg (by have := HM.out; omega)])]
  exact WrP.panic (Keeps.trans2 HKW.out HK1.out (fun _ _ h => h))

set_option maxRecDepth 100000 in
set_option maxHeartbeats 3200000 in
theorem other_22 (B wb : Nat) (a : Option Addr) (n c : Nat) (xs : List UInt8) (f : Qf) (w : World) (hw : Wr B w wb a n c xs) (hf : ∀ w', Below B w w' → Qin w' f) (ht : f.c.t = 22) (hn : n ≤ 10000000) (hn8 : f.n ≤ 1000000) (hB : B ≤ w.heap.size) :
  Calls Try.prog 42 #[.pointer (some ⟨wb, 0, none⟩), .agg f.cs] w (WrP B wb a (encO xs f.c) w) := by
 have HW := Lib.hid hw
 have HF := Lib.hid hf
 have HWF := Lib.hid (hf w (Below.refl _ _)).wf
 have HXL := Lib.hid (hf w (Below.refl _ _)).b.1
 have HK0 : Hid (Keeps (fun _ => False) w (w.alloc (.cells f.cs 32 (0, 0)))) := Lib.hid ((Keeps.refl _ w).alloc _)
 have HL1 := Lib.hid (Blk.new w f.cs 32)
 clear hw hf
 have HT := Lib.hid ht
 have e16 : (f.c.t == 16) = false := by simp [ht]
 have e20 : (f.c.t == 20) = false := by simp [ht]
 have e17 : (f.c.t == 17) = false := by simp [ht]
 have e21 : (f.c.t == 21) = false := by simp [ht]
 have e18 : (f.c.t == 18) = false := by simp [ht]
 have e22 : (f.c.t == 22) = true := by simp [ht]
 have HPL := Lib.hid (plan_22 ht)
 clear ht
 unfold Qf.cs at HK0 HL1 ⊢
 have HW1 := Lib.hid (HW.out.same HK0.out)
 go_enter Try.func42, Try.ntmps42
 go_upto_region 1 with fail
 refine wp_named ?_
 intro w1 hw1
 rw [hw1] at HK0 HL1 HW1
 have hs1 : w.heap.size ≤ w1.heap.size := HK0.out.size
 have HFR : Hid (¬ wrS B wb a w.heap.size) := Lib.hid (HW.out.fresh (Nat.le_refl _))
 have HB1 : Hid (Below B w w1) := Lib.hid (Keeps.below (Below.refl B w) HK0.out hB (fun _ h => False.elim h))
 have HK1 : Hid (Keeps (wrS B wb a) w1 w1) := Lib.hid (Keeps.refl _ _)
 have HN1 : Hid (Near B w1 a a) := Lib.hid (Near.refl B w1 a)
 have HKW : Hid (Keeps (wrS B wb a) w w1) := Lib.hid HK0.out.to
 clear hw1
 generalize w.heap.size = fb at *
 have hB1 : B ≤ w1.heap.size := by omega
 have q0 : w1.cell? ⟨fb, 0, none⟩ = some (.int .u64 f.c.t) := HL1.out.cell 0
 have q4 : w1.cell? ⟨fb, 4, none⟩ = some (.int .u64 f.c.mx) := HL1.out.cell 4
 by_cases hm : f.c.mx ≤ 1152921504606846976
 ·have hmd : decide (f.c.mx ≤ 1152921504606846976) = true := decide_eq_true hm
  have HM := Lib.hid hm
  clear hm
  go_wp2_with fail
  refine (must_ok w1).mono ?_
  rintro e w' ⟨rfl, rfl⟩
  have HE8 : Hid (encO xs f.c = numsO xs [f.c.t + b2i f.c.uni, f.c.mx]) := Lib.hid (encO_nums (by rw [HT.out]; decide) (by rw [HPL.out, if_pos HM.out, HT.out]))
  clear hmd q0 q4
  go_wp2_with fail
  have hb2 := b2i_bd f.c.uni
  have ht0 : 0 ≤ f.c.t := HWF.out.t.1
  have ht1 : f.c.t ≤ 900 := by rw [HT.out]; decide
  have HKd : Hid (Keeps (fun _ => False) w1 w1.drew) := Lib.hid (Keeps.refl _ _).drew
  have HWd := Lib.hid (HW1.out.same HKd.out)
  refine wp_region_held (S := fun w' : World => w'.cell? ⟨fb, 0, none⟩ = some (.int .u64 f.c.t) ∧ w'.cell? ⟨fb, 9, none⟩ = some (.bool f.c.uni) ∧ w'.cell? ⟨fb, 4, none⟩ = some (.int .u64 f.c.mx)) (by kernel_rfl) ?_
  change wpAnyH _ _ _ _ _ _ _ _ (World.drew _)
  have hS : (fun w' : World => w'.cell? ⟨fb, 0, none⟩ = some (.int .u64 f.c.t) ∧ w'.cell? ⟨fb, 9, none⟩ = some (.bool f.c.uni) ∧ w'.cell? ⟨fb, 4, none⟩ = some (.int .u64 f.c.mx)) w1.drew := ⟨HL1.out.cell 0, HL1.out.cell 9, HL1.out.cell 4⟩
  refine tH (i := 0) (v := ?_) rfl ?_ hS ?_
  rotate_left
  ·intro wz ⟨_, _, _⟩; go_simp; try with_reducible rfl
  refine tH (i := 1) (v := ?_) rfl ?_ hS ?_
  rotate_left
  ·intro wz ⟨_, _, _⟩; go_simp; try with_reducible rfl
  refine tH (i := 2) (v := ?_) rfl ?_ hS ?_
  rotate_left
  ·intro wz ⟨_, _, _⟩; go_simp; try with_reducible rfl
  refine tH (i := 3) (v := ?_) rfl ?_ hS ?_
  rotate_left
  ·intro wz ⟨_, _, _⟩; go_simp; try with_reducible rfl
  refine tH (i := 4) (v := ?_) rfl ?_ hS ?_
  rotate_left
  ·intro wz ⟨_, _, _⟩; go_simp; try with_reducible rfl
  refine tH (i := 6) (v := ?_) rfl ?_ hS ?_
  rotate_left
  ·intro wz ⟨_, _, _⟩; go_simp; try with_reducible rfl
  refine tH (i := 7) (v := ?_) rfl ?_ hS ?_
  rotate_left
  ·intro wz ⟨_, _, _⟩; go_simp; try with_reducible rfl
  refine held_call (i := 5) 57 #[.int .u64 f.c.t, .bool f.c.uni] rfl (by kernel_rfl) (by kernel_rfl) ?_ ?_
  ·go_simp; try with_reducible rfl
  refine (flag_any f.c.t f.c.uni w1.drew ht0 (by omega)).mono ?_
  rintro e w' ⟨rfl, rfl⟩
  refine ⟨_, rfl, hS, ?_⟩
  have hSa : (fun w' : World => w'.cell? ⟨fb, 0, none⟩ = some (.int .u64 f.c.t) ∧ w'.cell? ⟨fb, 9, none⟩ = some (.bool f.c.uni) ∧ w'.cell? ⟨fb, 4, none⟩ = some (.int .u64 f.c.mx)) (w1.drew.alloc (.cells #[.int .u64 (f.c.t + b2i f.c.uni), .int .u64 f.c.mx] 29 (0, 0))) := ⟨((HKd.out.alloc _).blk HL1.out (fun h => h)).cell 0, ((HKd.out.alloc _).blk HL1.out (fun h => h)).cell 9, ((HKd.out.alloc _).blk HL1.out (fun h => h)).cell 4⟩
  refine held_do (i := 8) (.slice (some ⟨w1.heap.size, 0, none⟩) 2 2) (w1.drew.alloc (.cells #[.int .u64 (f.c.t + b2i f.c.uni), .int .u64 f.c.mx] 29 (0, 0))) rfl (by kernel_rfl) (by kernel_rfl) ?_ hSa ?_
  ·go_simp; try with_reducible rfl
  refine held_callP (i := 9) 37 #[.pointer (some ⟨wb, 0, none⟩), .slice (some ⟨w1.heap.size, 0, none⟩) 2 2] rfl (by kernel_rfl) (by kernel_rfl) ?_ ?_
  ·go_simp; try with_reducible rfl
  refine (nums_new B wb a n c xs #[.int .u64 (f.c.t + b2i f.c.uni), .int .u64 f.c.mx] 2 [f.c.t + b2i f.c.uni, f.c.mx] w1.drew HWd.out (Uv.two' w1.drew _ (f.c.t + b2i f.c.uni) f.c.mx ⟨by omega, by omega⟩ HWF.out.mx) (by omega) (by omega) hB1).mono ?_
  rintro e w2 ⟨hk0, hr⟩
  have hk := HKd.out.to.trans hk0
  have hkc := wrS_trans HK1.out HN1.out hk
  cases hv : varsOK [f.c.t + b2i f.c.uni, f.c.mx] with
  | false =>
   rw [numsO_no hv] at hr
   have hr' : e = .panicked [{ v := stopV, recovered := false }] := hr
   subst hr'
   refine .inr ⟨_, rfl, rfl, ?_⟩
   rw [HE8.out, numsO_no hv]
   exact WrP.panic (Keeps.trans2 HKW.out hkc (fun _ _ h => h))
  | true =>
   rw [numsO_yes hv] at hr
   obtain ⟨rfl, a2, n2, c2, hw2, hn2⟩ := hr
   have HV2 := Lib.hid hv
   have HK2 := Lib.hid hkc
   have HN2 := Lib.hid (wrS_near HN1.out HK1.out (near_to hn2 HKd.out.size))
   have HW2 := Lib.hid hw2
   have HL2 := Lib.hid (HK2.out.blk HL1.out HFR.out)
   have HB2 : Hid (Below B w w2) := Lib.hid (wrS_below HK2.out HB1.out hB1 HW.out.le)
   have hB2 : B ≤ w2.heap.size := by have := HK2.out.size; omega
   have hln2 : n2 ≤ n + 16 := by
    have h1 := hw2.len
    have h2 := HW1.out.len
    have h3 := numsO_len (numsO_yes (xs := xs) hv)
    simp only [List.length_cons, List.length_nil] at h3
    omega
   refine .inl ⟨_, rfl, ⟨HL2.out.cell 0, HL2.out.cell 9, HL2.out.cell 4⟩, ?_⟩
   clear hv hk hk0 hkc hw2 hn2 hS hSa
   refine wpAnyH_done (by kernel_rfl) ?_ _
   refine ⟨by kernel_rfl, .tuple #[], by simp [results, Try.results42, go_sem], ?_⟩
   rw [HE8.out, numsO_yes HV2.out]
   exact ⟨Keeps.trans2 HKW.out HK2.out (fun _ _ h => h), rfl, a2, n2, c2, HW2.out, near_to HN2.out HKW.out.size⟩
 ·have hmd : decide (f.c.mx ≤ 1152921504606846976) = false := decide_eq_false hm
  have HM := Lib.hid hm
  clear hm
  go_wp2_with fail
  refine (must_no w1).mono ?_
  rintro e w' ⟨rfl, rfl⟩
  go_wp2_with fail
  refine ⟨rfl, ?_⟩
  rw [encO_no (by rw [HT.out]; decide) (by rw [HPL.out, if_neg (by have := HM.out; omega)])]
  exact WrP.panic (Keeps.trans2 HKW.out HK1.out (fun _ _ h => h))

end Go.Proofs.Ytgfkgmmigbpciaa
