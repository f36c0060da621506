/- The writer of the package qframe: frame. -/
import Derived.Test.YtgfkgmmigbpciaaQfH
namespace Go.Proofs.Ytgfkgmmigbpciaa
set_option linter.unusedSimpArgs false
set_option linter.unusedVariables false
open Go.RowKit Go.Deep

theorem other_any (B wb : Nat) (a : Option Addr) (n c : Nat) (xs : List UInt8) (f : Qf) (w : World) (hw : Wr B w wb a n c xs) (hf : ∀ w', Below B w w' → Qin w' f) (ht : f.c.t ∉ [0, 1, 30, 2, 4, 5, 6, 7, 8]) (hn : n ≤ 10000000) (hn8 : f.n ≤ 1000000) (hB : B ≤ w.heap.size) :
  Calls Try.prog 42 #[.pointer (some ⟨wb, 0, none⟩), .agg f.cs] w (WrP B wb a (encO xs f.c) w) := by
 by_cases h16 : f.c.t = 16
 ·exact other_16 B wb a n c xs f w hw hf h16 hn hn8 hB
 by_cases h20 : f.c.t = 20
 ·exact other_20 B wb a n c xs f w hw hf h20 hn hn8 hB
 by_cases h17 : f.c.t = 17
 ·exact other_17 B wb a n c xs f w hw hf h17 hn hn8 hB
 by_cases h21 : f.c.t = 21
 ·exact other_21 B wb a n c xs f w hw hf h21 hn hn8 hB
 by_cases h18 : f.c.t = 18
 ·exact other_18 B wb a n c xs f w hw hf h18 hn hn8 hB
 by_cases h22 : f.c.t = 22
 ·exact other_22 B wb a n c xs f w hw hf h22 hn hn8 hB
 by_cases h24 : f.c.t = 24
 ·exact other_24 B wb a n c xs f w hw hf h24 hn hn8 hB
 by_cases h25 : f.c.t = 25
 ·exact other_25 B wb a n c xs f w hw hf h25 hn hn8 hB
 by_cases h26 : f.c.t = 26
 ·exact other_26 B wb a n c xs f w hw hf h26 hn hn8 hB
 by_cases h27 : f.c.t = 27
 ·exact other_27 B wb a n c xs f w hw hf h27 hn hn8 hB
 by_cases h28 : f.c.t = 28
 ·exact other_28 B wb a n c xs f w hw hf h28 hn hn8 hB
 refine other_no B wb a n c xs f w hw hf (fun h => ht (by rw [h]; decide)) ?_ hn hn8 hB
 unfold typesQ
 simp only [List.mem_cons, List.not_mem_nil, or_false, not_or] at ht ⊢
 exact ⟨ht.2.1, ht.2.2.1, ht.2.2.2.1, ht.2.2.2.2.1, ht.2.2.2.2.2.1, ht.2.2.2.2.2.2.1, ht.2.2.2.2.2.2.2.1, ht.2.2.2.2.2.2.2.2, h16, h20, h17, h21, h18, h22, h24, h25, h26, h27, h28⟩

set_option maxRecDepth 100000 in
set_option maxHeartbeats 3200000 in
theorem frame_1 (B wb : Nat) (a : Option Addr) (n c : Nat) (xs : List UInt8) (f : Qf) (w : World) (hw : Wr B w wb a n c xs) (hf : ∀ w', Below B w w' → Qin w' f) (ht : f.c.t = 1) (hn : n ≤ 10000000) (hn8 : f.n ≤ 1000000) (hB : B ≤ w.heap.size) :
  Calls Try.prog 24 #[.pointer (some ⟨wb, 0, none⟩), .agg f.cs] w (WrP B wb a (encO xs f.c) w) := by
 have HW := Lib.hid hw
 have HF := Lib.hid hf
 have HWF := Lib.hid (hf w (Below.refl _ _)).wf
 have HXL := Lib.hid (hf w (Below.refl _ _)).b.1
 have HK0 : Hid (Keeps (fun _ => False) w (w.alloc (.cells f.cs 32 (0, 0)))) := Lib.hid ((Keeps.refl _ w).alloc _)
 have HL1 := Lib.hid (Blk.new w f.cs 32)
 clear hw hf
 have HT := Lib.hid ht
 have e0 : (f.c.t == 0) = false := by simp [ht]
 have e1 : (f.c.t == 1) = true := by simp [ht]
 have HPL := Lib.hid (plan_1 ht)
 clear ht
 unfold Qf.cs at HK0 HL1 ⊢
 have HW1 := Lib.hid (HW.out.same HK0.out)
 go_enter Try.func24, Try.ntmps24
 go_upto_region 1 with fail
 refine wp_named ?_
 intro w1 hw1
 rw [hw1] at HK0 HL1 HW1
 have hs1 : w.heap.size ≤ w1.heap.size := HK0.out.size
 have HFR : Hid (¬ wrS B wb a w.heap.size) := Lib.hid (HW.out.fresh (Nat.le_refl _))
 have HB1 : Hid (Below B w w1) := Lib.hid (Keeps.below (Below.refl B w) HK0.out hB (fun _ h => False.elim h))
 have HK1 : Hid (Keeps (wrS B wb a) w1 w1) := Lib.hid (Keeps.refl _ _)
 have HN1 : Hid (Near B w1 a a) := Lib.hid (Near.refl B w1 a)
 have HKW : Hid (Keeps (wrS B wb a) w w1) := Lib.hid HK0.out.to
 clear hw1
 generalize w.heap.size = fb at *
 have hB1 : B ≤ w1.heap.size := by omega
 have q0 : w1.cell? ⟨fb, 0, none⟩ = some (.int .u64 f.c.t) := HL1.out.cell 0
 go_wp2_with fail
 clear q0
 refine (nums_new B wb a n c xs _ 1 [f.c.t] w1 HW1.out (Uv.one' w1 _ f.c.t HWF.out.t) (by omega) (by omega) hB1).mono ?_
 rintro e w9 h
 have HG : Hid (WrP B wb a (encO xs f.c) w e w9) := Lib.hid (by rw [encO_nums (by rw [HT.out]; decide) (l := [f.c.t]) (by rw [HPL.out, HT.out])]; exact WrP.whole HKW.out HK1.out HN1.out hs1 h)
 rcases h.ends with rfl | rfl
 ·clear h
  go_wp2_with fail
  go_end0
  exact HG.out
 ·clear h
  go_wp2_with fail
  exact ⟨rfl, HG.out⟩

set_option maxRecDepth 100000 in
set_option maxHeartbeats 3200000 in
theorem frame_30 (B wb : Nat) (a : Option Addr) (n c : Nat) (xs : List UInt8) (f : Qf) (w : World) (hw : Wr B w wb a n c xs) (hf : ∀ w', Below B w w' → Qin w' f) (ht : f.c.t = 30) (hn : n ≤ 10000000) (hn8 : f.n ≤ 1000000) (hB : B ≤ w.heap.size) :
  Calls Try.prog 24 #[.pointer (some ⟨wb, 0, none⟩), .agg f.cs] w (WrP B wb a (encO xs f.c) w) := by
 have HW := Lib.hid hw
 have HF := Lib.hid hf
 have HWF := Lib.hid (hf w (Below.refl _ _)).wf
 have HXL := Lib.hid (hf w (Below.refl _ _)).b.1
 have HK0 : Hid (Keeps (fun _ => False) w (w.alloc (.cells f.cs 32 (0, 0)))) := Lib.hid ((Keeps.refl _ w).alloc _)
 have HL1 := Lib.hid (Blk.new w f.cs 32)
 clear hw hf
 have HT := Lib.hid ht
 have e0 : (f.c.t == 0) = false := by simp [ht]
 have e1 : (f.c.t == 1) = false := by simp [ht]
 have e30 : (f.c.t == 30) = true := by simp [ht]
 have HPL := Lib.hid (plan_30 ht)
 clear ht
 unfold Qf.cs at HK0 HL1 ⊢
 have HW1 := Lib.hid (HW.out.same HK0.out)
 go_enter Try.func24, Try.ntmps24
 go_upto_region 1 with fail
 refine wp_named ?_
 intro w1 hw1
 rw [hw1] at HK0 HL1 HW1
 have hs1 : w.heap.size ≤ w1.heap.size := HK0.out.size
 have HFR : Hid (¬ wrS B wb a w.heap.size) := Lib.hid (HW.out.fresh (Nat.le_refl _))
 have HB1 : Hid (Below B w w1) := Lib.hid (Keeps.below (Below.refl B w) HK0.out hB (fun _ h => False.elim h))
 have HK1 : Hid (Keeps (wrS B wb a) w1 w1) := Lib.hid (Keeps.refl _ _)
 have HN1 : Hid (Near B w1 a a) := Lib.hid (Near.refl B w1 a)
 have HKW : Hid (Keeps (wrS B wb a) w w1) := Lib.hid HK0.out.to
 clear hw1
 generalize w.heap.size = fb at *
 have hB1 : B ≤ w1.heap.size := by omega
 have q0 : w1.cell? ⟨fb, 0, none⟩ = some (.int .u64 f.c.t) := HL1.out.cell 0
 go_wp2_with fail
 clear q0
 refine (nums_new B wb a n c xs _ 1 [f.c.t] w1 HW1.out (Uv.one' w1 _ f.c.t HWF.out.t) (by omega) (by omega) hB1).mono ?_
 rintro e w9 h
 have HG : Hid (WrP B wb a (encO xs f.c) w e w9) := Lib.hid (by rw [encO_nums (by rw [HT.out]; decide) (l := [f.c.t]) (by rw [HPL.out, HT.out])]; exact WrP.whole HKW.out HK1.out HN1.out hs1 h)
 rcases h.ends with rfl | rfl
 ·clear h
  go_wp2_with fail
  go_end0
  exact HG.out
 ·clear h
  go_wp2_with fail
  exact ⟨rfl, HG.out⟩

set_option maxRecDepth 100000 in
set_option maxHeartbeats 3200000 in
theorem frame_4 (B wb : Nat) (a : Option Addr) (n c : Nat) (xs : List UInt8) (f : Qf) (w : World) (hw : Wr B w wb a n c xs) (hf : ∀ w', Below B w w' → Qin w' f) (ht : f.c.t = 4) (hn : n ≤ 10000000) (hn8 : f.n ≤ 1000000) (hB : B ≤ w.heap.size) :
  Calls Try.prog 24 #[.pointer (some ⟨wb, 0, none⟩), .agg f.cs] w (WrP B wb a (encO xs f.c) w) := by
 have HW := Lib.hid hw
 have HF := Lib.hid hf
 have HWF := Lib.hid (hf w (Below.refl _ _)).wf
 have HXL := Lib.hid (hf w (Below.refl _ _)).b.1
 have HK0 : Hid (Keeps (fun _ => False) w (w.alloc (.cells f.cs 32 (0, 0)))) := Lib.hid ((Keeps.refl _ w).alloc _)
 have HL1 := Lib.hid (Blk.new w f.cs 32)
 clear hw hf
 have HT := Lib.hid ht
 have e0 : (f.c.t == 0) = false := by simp [ht]
 have e1 : (f.c.t == 1) = false := by simp [ht]
 have e30 : (f.c.t == 30) = false := by simp [ht]
 have e2 : (f.c.t == 2) = false := by simp [ht]
 have e4 : (f.c.t == 4) = true := by simp [ht]
 have HPL := Lib.hid (plan_4 ht)
 clear ht
 unfold Qf.cs at HK0 HL1 ⊢
 have HW1 := Lib.hid (HW.out.same HK0.out)
 go_enter Try.func24, Try.ntmps24
 go_upto_region 1 with fail
 refine wp_named ?_
 intro w1 hw1
 rw [hw1] at HK0 HL1 HW1
 have hs1 : w.heap.size ≤ w1.heap.size := HK0.out.size
 have HFR : Hid (¬ wrS B wb a w.heap.size) := Lib.hid (HW.out.fresh (Nat.le_refl _))
 have HB1 : Hid (Below B w w1) := Lib.hid (Keeps.below (Below.refl B w) HK0.out hB (fun _ h => False.elim h))
 have HK1 : Hid (Keeps (wrS B wb a) w1 w1) := Lib.hid (Keeps.refl _ _)
 have HN1 : Hid (Near B w1 a a) := Lib.hid (Near.refl B w1 a)
 have HKW : Hid (Keeps (wrS B wb a) w w1) := Lib.hid HK0.out.to
 clear hw1
 generalize w.heap.size = fb at *
 have hB1 : B ≤ w1.heap.size := by omega
 have q0 : w1.cell? ⟨fb, 0, none⟩ = some (.int .u64 f.c.t) := HL1.out.cell 0
 have q1 : w1.cell? ⟨fb, 1, none⟩ = some (.int .u64 f.c.id) := HL1.out.cell 1
 have q4 : w1.cell? ⟨fb, 4, none⟩ = some (.int .u64 f.c.mx) := HL1.out.cell 4
 have q5 : w1.cell? ⟨fb, 5, none⟩ = some (.int .u64 f.c.code) := HL1.out.cell 5
 go_wp2_with fail
 clear q0 q1 q4 q5
 refine (nums_new B wb a n c xs _ 4 [f.c.t, f.c.id, f.c.code, f.c.mx] w1 HW1.out (Uv.four w1 _ f.c.t f.c.id f.c.code f.c.mx HWF.out.t HWF.out.id HWF.out.code HWF.out.mx) (by omega) (by omega) hB1).mono ?_
 rintro e w9 h
 have HG : Hid (WrP B wb a (encO xs f.c) w e w9) := Lib.hid (by rw [encO_nums (by rw [HT.out]; decide) (l := [f.c.t, f.c.id, f.c.code, f.c.mx]) (by rw [HPL.out, HT.out])]; exact WrP.whole HKW.out HK1.out HN1.out hs1 h)
 rcases h.ends with rfl | rfl
 ·clear h
  go_wp2_with fail
  go_end0
  exact HG.out
 ·clear h
  go_wp2_with fail
  exact ⟨rfl, HG.out⟩

set_option maxRecDepth 100000 in
set_option maxHeartbeats 3200000 in
theorem frame_5 (B wb : Nat) (a : Option Addr) (n c : Nat) (xs : List UInt8) (f : Qf) (w : World) (hw : Wr B w wb a n c xs) (hf : ∀ w', Below B w w' → Qin w' f) (ht : f.c.t = 5) (hn : n ≤ 10000000) (hn8 : f.n ≤ 1000000) (hB : B ≤ w.heap.size) :
  Calls Try.prog 24 #[.pointer (some ⟨wb, 0, none⟩), .agg f.cs] w (WrP B wb a (encO xs f.c) w) := by
 have HW := Lib.hid hw
 have HF := Lib.hid hf
 have HWF := Lib.hid (hf w (Below.refl _ _)).wf
 have HXL := Lib.hid (hf w (Below.refl _ _)).b.1
 have HK0 : Hid (Keeps (fun _ => False) w (w.alloc (.cells f.cs 32 (0, 0)))) := Lib.hid ((Keeps.refl _ w).alloc _)
 have HL1 := Lib.hid (Blk.new w f.cs 32)
 clear hw hf
 have HT := Lib.hid ht
 have e0 : (f.c.t == 0) = false := by simp [ht]
 have e1 : (f.c.t == 1) = false := by simp [ht]
 have e30 : (f.c.t == 30) = false := by simp [ht]
 have e2 : (f.c.t == 2) = false := by simp [ht]
 have e4 : (f.c.t == 4) = false := by simp [ht]
 have e5 : (f.c.t == 5) = true := by simp [ht]
 have HPL := Lib.hid (plan_5 ht)
 clear ht
 unfold Qf.cs at HK0 HL1 ⊢
 have HW1 := Lib.hid (HW.out.same HK0.out)
 go_enter Try.func24, Try.ntmps24
 go_upto_region 1 with fail
 refine wp_named ?_
 intro w1 hw1
 rw [hw1] at HK0 HL1 HW1
 have hs1 : w.heap.size ≤ w1.heap.size := HK0.out.size
 have HFR : Hid (¬ wrS B wb a w.heap.size) := Lib.hid (HW.out.fresh (Nat.le_refl _))
 have HB1 : Hid (Below B w w1) := Lib.hid (Keeps.below (Below.refl B w) HK0.out hB (fun _ h => False.elim h))
 have HK1 : Hid (Keeps (wrS B wb a) w1 w1) := Lib.hid (Keeps.refl _ _)
 have HN1 : Hid (Near B w1 a a) := Lib.hid (Near.refl B w1 a)
 have HKW : Hid (Keeps (wrS B wb a) w w1) := Lib.hid HK0.out.to
 clear hw1
 generalize w.heap.size = fb at *
 have hB1 : B ≤ w1.heap.size := by omega
 have q0 : w1.cell? ⟨fb, 0, none⟩ = some (.int .u64 f.c.t) := HL1.out.cell 0
 have q1 : w1.cell? ⟨fb, 1, none⟩ = some (.int .u64 f.c.id) := HL1.out.cell 1
 have q5 : w1.cell? ⟨fb, 5, none⟩ = some (.int .u64 f.c.code) := HL1.out.cell 5
 go_wp2_with fail
 clear q0 q1 q5
 refine (nums_new B wb a n c xs _ 3 [f.c.t, f.c.id, f.c.code] w1 HW1.out (Uv.three w1 _ f.c.t f.c.id f.c.code HWF.out.t HWF.out.id HWF.out.code) (by omega) (by omega) hB1).mono ?_
 rintro e w9 h
 have HG : Hid (WrP B wb a (encO xs f.c) w e w9) := Lib.hid (by rw [encO_nums (by rw [HT.out]; decide) (l := [f.c.t, f.c.id, f.c.code]) (by rw [HPL.out, HT.out])]; exact WrP.whole HKW.out HK1.out HN1.out hs1 h)
 rcases h.ends with rfl | rfl
 ·clear h
  go_wp2_with fail
  go_end0
  exact HG.out
 ·clear h
  go_wp2_with fail
  exact ⟨rfl, HG.out⟩

set_option maxRecDepth 100000 in
set_option maxHeartbeats 3200000 in
theorem frame_2 (B wb : Nat) (a : Option Addr) (n c : Nat) (xs : List UInt8) (f : Qf) (w : World) (hw : Wr B w wb a n c xs) (hf : ∀ w', Below B w w' → Qin w' f) (ht : f.c.t = 2) (hn : n ≤ 10000000) (hn8 : f.n ≤ 1000000) (hB : B ≤ w.heap.size) :
  Calls Try.prog 24 #[.pointer (some ⟨wb, 0, none⟩), .agg f.cs] w (WrP B wb a (encO xs f.c) w) := by
 have HW := Lib.hid hw
 have HF := Lib.hid hf
 have HWF := Lib.hid (hf w (Below.refl _ _)).wf
 have HXL := Lib.hid (hf w (Below.refl _ _)).b.1
 have HK0 : Hid (Keeps (fun _ => False) w (w.alloc (.cells f.cs 32 (0, 0)))) := Lib.hid ((Keeps.refl _ w).alloc _)
 have HL1 := Lib.hid (Blk.new w f.cs 32)
 clear hw hf
 have HT := Lib.hid ht
 have e0 : (f.c.t == 0) = false := by simp [ht]
 have e1 : (f.c.t == 1) = false := by simp [ht]
 have e30 : (f.c.t == 30) = false := by simp [ht]
 have e2 : (f.c.t == 2) = true := by simp [ht]
 clear ht
 unfold Qf.cs at HK0 HL1 ⊢
 have HW1 := Lib.hid (HW.out.same HK0.out)
 go_enter Try.func24, Try.ntmps24
 go_upto_region 1 with fail
 refine wp_named ?_
 intro w1 hw1
 rw [hw1] at HK0 HL1 HW1
 have hs1 : w.heap.size ≤ w1.heap.size := HK0.out.size
 have HFR : Hid (¬ wrS B wb a w.heap.size) := Lib.hid (HW.out.fresh (Nat.le_refl _))
 have HB1 : Hid (Below B w w1) := Lib.hid (Keeps.below (Below.refl B w) HK0.out hB (fun _ h => False.elim h))
 have HK1 : Hid (Keeps (wrS B wb a) w1 w1) := Lib.hid (Keeps.refl _ _)
 have HN1 : Hid (Near B w1 a a) := Lib.hid (Near.refl B w1 a)
 have HKW : Hid (Keeps (wrS B wb a) w w1) := Lib.hid HK0.out.to
 clear hw1
 generalize w.heap.size = fb at *
 have hB1 : B ≤ w1.heap.size := by omega
 have q0 : w1.cell? ⟨fb, 0, none⟩ = some (.int .u64 f.c.t) := HL1.out.cell 0
 have q1 : w1.cell? ⟨fb, 1, none⟩ = some (.int .u64 f.c.id) := HL1.out.cell 1
 have q2 : w1.cell? ⟨fb, 2, none⟩ = some (.int .u64 f.c.off) := HL1.out.cell 2
 have q3 : w1.cell? ⟨fb, 3, none⟩ = some (.bool f.c.fin) := HL1.out.cell 3
 have q4 : w1.cell? ⟨fb, 4, none⟩ = some (.int .u64 f.c.mx) := HL1.out.cell 4
 have q5 : w1.cell? ⟨fb, 5, none⟩ = some (.int .u64 f.c.code) := HL1.out.cell 5
 have q6 : w1.cell? ⟨fb, 6, none⟩ = some (.int .u64 f.c.delay) := HL1.out.cell 6
 have q7 : w1.cell? ⟨fb, 7, none⟩ = some (.slice f.ra f.rn f.rc) := HL1.out.cell 7
 have q8 : w1.cell? ⟨fb, 8, none⟩ = some (.slice f.a f.n f.cap) := HL1.out.cell 8
 have q9 : w1.cell? ⟨fb, 9, none⟩ = some (.bool f.c.uni) := HL1.out.cell 9
 have q10 : w1.cell? ⟨fb, 10, none⟩ = some (.bool f.c.app) := HL1.out.cell 10
 have q11 : w1.cell? ⟨fb, 11, none⟩ = some (.int .i64 f.c.N) := HL1.out.cell 11
 go_wp2_with fail
 clear q0 q1 q2 q3 q4 q5 q6 q7 q8 q9 q10 q11
 refine (ack_any B wb a n c xs f w1 HW1.out (fun w' h => HF.out w' (HB1.out.trans h)) HT.out (by omega) hn8 hB1).mono ?_
 rintro e w9 h
 have HG : Hid (WrP B wb a (encO xs f.c) w e w9) := Lib.hid (by skip; exact WrP.whole HKW.out HK1.out HN1.out hs1 h)
 rcases h.ends with rfl | rfl
 ·clear h
  go_wp2_with fail
  go_end0
  exact HG.out
 ·clear h
  go_wp2_with fail
  exact ⟨rfl, HG.out⟩

set_option maxRecDepth 100000 in
set_option maxHeartbeats 3200000 in
theorem frame_8 (B wb : Nat) (a : Option Addr) (n c : Nat) (xs : List UInt8) (f : Qf) (w : World) (hw : Wr B w wb a n c xs) (hf : ∀ w', Below B w w' → Qin w' f) (ht : f.c.t = 8) (hn : n ≤ 10000000) (hn8 : f.n ≤ 1000000) (hB : B ≤ w.heap.size) :
  Calls Try.prog 24 #[.pointer (some ⟨wb, 0, none⟩), .agg f.cs] w (WrP B wb a (encO xs f.c) w) := by
 have HW := Lib.hid hw
 have HF := Lib.hid hf
 have HWF := Lib.hid (hf w (Below.refl _ _)).wf
 have HXL := Lib.hid (hf w (Below.refl _ _)).b.1
 have HK0 : Hid (Keeps (fun _ => False) w (w.alloc (.cells f.cs 32 (0, 0)))) := Lib.hid ((Keeps.refl _ w).alloc _)
 have HL1 := Lib.hid (Blk.new w f.cs 32)
 clear hw hf
 have HT := Lib.hid ht
 have e0 : (f.c.t == 0) = false := by simp [ht]
 have e1 : (f.c.t == 1) = false := by simp [ht]
 have e30 : (f.c.t == 30) = false := by simp [ht]
 have e2 : (f.c.t == 2) = false := by simp [ht]
 have e4 : (f.c.t == 4) = false := by simp [ht]
 have e5 : (f.c.t == 5) = false := by simp [ht]
 have e6 : (f.c.t == 6) = false := by simp [ht]
 have e7 : (f.c.t == 7) = false := by simp [ht]
 have e8 : (f.c.t == 8) = true := by simp [ht]
 clear ht
 unfold Qf.cs at HK0 HL1 ⊢
 have HW1 := Lib.hid (HW.out.same HK0.out)
 go_enter Try.func24, Try.ntmps24
 go_upto_region 1 with fail
 refine wp_named ?_
 intro w1 hw1
 rw [hw1] at HK0 HL1 HW1
 have hs1 : w.heap.size ≤ w1.heap.size := HK0.out.size
 have HFR : Hid (¬ wrS B wb a w.heap.size) := Lib.hid (HW.out.fresh (Nat.le_refl _))
 have HB1 : Hid (Below B w w1) := Lib.hid (Keeps.below (Below.refl B w) HK0.out hB (fun _ h => False.elim h))
 have HK1 : Hid (Keeps (wrS B wb a) w1 w1) := Lib.hid (Keeps.refl _ _)
 have HN1 : Hid (Near B w1 a a) := Lib.hid (Near.refl B w1 a)
 have HKW : Hid (Keeps (wrS B wb a) w w1) := Lib.hid HK0.out.to
 clear hw1
 generalize w.heap.size = fb at *
 have hB1 : B ≤ w1.heap.size := by omega
 have q0 : w1.cell? ⟨fb, 0, none⟩ = some (.int .u64 f.c.t) := HL1.out.cell 0
 have q1 : w1.cell? ⟨fb, 1, none⟩ = some (.int .u64 f.c.id) := HL1.out.cell 1
 have q2 : w1.cell? ⟨fb, 2, none⟩ = some (.int .u64 f.c.off) := HL1.out.cell 2
 have q3 : w1.cell? ⟨fb, 3, none⟩ = some (.bool f.c.fin) := HL1.out.cell 3
 have q4 : w1.cell? ⟨fb, 4, none⟩ = some (.int .u64 f.c.mx) := HL1.out.cell 4
 have q5 : w1.cell? ⟨fb, 5, none⟩ = some (.int .u64 f.c.code) := HL1.out.cell 5
 have q6 : w1.cell? ⟨fb, 6, none⟩ = some (.int .u64 f.c.delay) := HL1.out.cell 6
 have q7 : w1.cell? ⟨fb, 7, none⟩ = some (.slice f.ra f.rn f.rc) := HL1.out.cell 7
 have q8 : w1.cell? ⟨fb, 8, none⟩ = some (.slice f.a f.n f.cap) := HL1.out.cell 8
 have q9 : w1.cell? ⟨fb, 9, none⟩ = some (.bool f.c.uni) := HL1.out.cell 9
 have q10 : w1.cell? ⟨fb, 10, none⟩ = some (.bool f.c.app) := HL1.out.cell 10
 have q11 : w1.cell? ⟨fb, 11, none⟩ = some (.int .i64 f.c.N) := HL1.out.cell 11
 go_wp2_with fail
 clear q0 q1 q2 q3 q4 q5 q6 q7 q8 q9 q10 q11
 refine (stream_any B wb a n c xs f w1 HW1.out (fun w' h => HF.out w' (HB1.out.trans h)) HT.out (by omega) hn8 hB1).mono ?_
 rintro e w9 h
 have HG : Hid (WrP B wb a (encO xs f.c) w e w9) := Lib.hid (by skip; exact WrP.whole HKW.out HK1.out HN1.out hs1 h)
 rcases h.ends with rfl | rfl
 ·clear h
  go_wp2_with fail
  go_end0
  exact HG.out
 ·clear h
  go_wp2_with fail
  exact ⟨rfl, HG.out⟩

set_option maxRecDepth 100000 in
set_option maxHeartbeats 3200000 in
theorem frame_6 (B wb : Nat) (a : Option Addr) (n c : Nat) (xs : List UInt8) (f : Qf) (w : World) (hw : Wr B w wb a n c xs) (hf : ∀ w', Below B w w' → Qin w' f) (ht : f.c.t = 6) (hn : n ≤ 10000000) (hn8 : f.n ≤ 1000000) (hB : B ≤ w.heap.size) :
  Calls Try.prog 24 #[.pointer (some ⟨wb, 0, none⟩), .agg f.cs] w (WrP B wb a (encO xs f.c) w) := by
 have HW := Lib.hid hw
 have HF := Lib.hid hf
 have HWF := Lib.hid (hf w (Below.refl _ _)).wf
 have HXL := Lib.hid (hf w (Below.refl _ _)).b.1
 have HK0 : Hid (Keeps (fun _ => False) w (w.alloc (.cells f.cs 32 (0, 0)))) := Lib.hid ((Keeps.refl _ w).alloc _)
 have HL1 := Lib.hid (Blk.new w f.cs 32)
 clear hw hf
 have HT := Lib.hid ht
 have e0 : (f.c.t == 0) = false := by simp [ht]
 have e1 : (f.c.t == 1) = false := by simp [ht]
 have e30 : (f.c.t == 30) = false := by simp [ht]
 have e2 : (f.c.t == 2) = false := by simp [ht]
 have e4 : (f.c.t == 4) = false := by simp [ht]
 have e5 : (f.c.t == 5) = false := by simp [ht]
 have e6 : (f.c.t == 6) = true := by simp [ht]
 have HPL := Lib.hid (plan_6 ht)
 clear ht
 unfold Qf.cs at HK0 HL1 ⊢
 have HW1 := Lib.hid (HW.out.same HK0.out)
 go_enter Try.func24, Try.ntmps24
 go_upto_region 1 with fail
 refine wp_named ?_
 intro w1 hw1
 rw [hw1] at HK0 HL1 HW1
 have hs1 : w.heap.size ≤ w1.heap.size := HK0.out.size
 have HFR : Hid (¬ wrS B wb a w.heap.size) := Lib.hid (HW.out.fresh (Nat.le_refl _))
 have HB1 : Hid (Below B w w1) := Lib.hid (Keeps.below (Below.refl B w) HK0.out hB (fun _ h => False.elim h))
 have HK1 : Hid (Keeps (wrS B wb a) w1 w1) := Lib.hid (Keeps.refl _ _)
 have HN1 : Hid (Near B w1 a a) := Lib.hid (Near.refl B w1 a)
 have HKW : Hid (Keeps (wrS B wb a) w w1) := Lib.hid HK0.out.to
 clear hw1
 generalize w.heap.size = fb at *
 have hB1 : B ≤ w1.heap.size := by omega
 have q0 : w1.cell? ⟨fb, 0, none⟩ = some (.int .u64 f.c.t) := HL1.out.cell 0
 have q2 : w1.cell? ⟨fb, 2, none⟩ = some (.int .u64 f.c.off) := HL1.out.cell 2
 have q8 : w1.cell? ⟨fb, 8, none⟩ = some (.slice f.a f.n f.cap) := HL1.out.cell 8
 go_wp2_with fail
 refine (end_any f.c.off f.n w1 HWF.out.off.1 HWF.out.off.2 hn8).mono ?_
 rintro e w' ⟨he, rfl⟩
 cases hen : endB f.c.off f.n with
 | false =>
  rw [hen] at he
  have he' : e = .panicked [{ v := stopV, recovered := false }] := he
  subst he'
  have HEN := Lib.hid hen
  clear hen he
  go_wp2_with fail
  refine ⟨rfl, ?_⟩
  rw [encO_no (by rw [HT.out]; decide) (by rw [HPL.out, ← HXL.out, HEN.out]; rfl)]
  exact WrP.panic (Keeps.trans2 HKW.out HK1.out (fun _ _ h => h))
 | true =>
  rw [hen] at he
  have he' : e = .returned (.tuple #[]) := he
  subst he'
  have HEN := Lib.hid hen
  clear hen he q2 q8
  clear q0
  have q0 : w1.cell? ⟨fb, 0, none⟩ = some (.int .u64 f.c.t) := HL1.out.cell 0
  have q2 : w1.cell? ⟨fb, 2, none⟩ = some (.int .u64 f.c.off) := HL1.out.cell 2
  have HE8 : Hid (encO xs f.c = thenO (numsO xs [f.c.t, f.c.off]) (varsE [(f.n : Int)] ++ f.c.xs)) := Lib.hid (by
   refine encO_text (by rw [HT.out]; decide) (l' := [6, f.c.off, (f.c.xs.length : Int)]) (by rw [HPL.out, ← HXL.out, HEN.out, if_pos rfl]) (by rw [HT.out, HXL.out]; rfl) hn8)
  go_wp2_with fail
  clear q0 q2
  refine (nums_new B wb a n c xs _ 2 [f.c.t, f.c.off] w1 HW1.out (Uv.two' w1 _ f.c.t f.c.off HWF.out.t HWF.out.off) (by omega) (by omega) hB1).mono ?_
  rintro e w2 ⟨hk, hr⟩
  cases hv : varsOK [f.c.t, f.c.off] with
  | false =>
   rw [numsO_no hv] at hr
   have hr' : e = .panicked [{ v := stopV, recovered := false }] := hr
   subst hr'
   have HV := Lib.hid hv
   have HK2 := Lib.hid (wrS_trans HK1.out HN1.out hk)
   clear hv hr hk
   go_wp2_with fail
   refine ⟨rfl, ?_⟩
   rw [HE8.out, numsO_no HV.out, thenO_none]
   exact WrP.panic (Keeps.trans2 HKW.out HK2.out (fun _ _ h => h))
  | true =>
   rw [numsO_yes hv] at hr
   obtain ⟨rfl, a2, n2, c2, hw2, hn2⟩ := hr
   have HV2 := Lib.hid hv
   have HK2 := Lib.hid (wrS_trans HK1.out HN1.out hk)
   have HN2 := Lib.hid (wrS_near HN1.out HK1.out hn2)
   have HW2 := Lib.hid hw2
   have HL2 := Lib.hid (HK2.out.blk HL1.out HFR.out)
   have HB2 : Hid (Below B w w2) := Lib.hid (wrS_below HK2.out HB1.out hB1 HW.out.le)
   have hB2 : B ≤ w2.heap.size := by have := HK2.out.size; omega
   have hln2 : n2 ≤ n + 16 := by
    have h1 := hw2.len
    have h2 := HW1.out.len
    have h3 := numsO_len (numsO_yes (xs := xs) hv)
    simp only [List.length_cons, List.length_nil] at h3
    omega
   clear hv hk hw2 hn2
   have q8 : w2.cell? ⟨fb, 8, none⟩ = some (.slice f.a f.n f.cap) := HL2.out.cell 8
   go_wp2_with fail
   clear q8
   refine (text_any B wb a2 n2 c2 (xs ++ varsE [f.c.t, f.c.off]) f.a f.n f.cap f.c.xs w2 HW2.out (fun w' h => (HF.out w' (HB2.out.trans h)).b) (by omega) hn8 hB2).mono ?_
   rintro e w9 h
   have HG : Hid (WrP B wb a (encO xs f.c) w e w9) := Lib.hid (by rw [HE8.out, numsO_yes HV2.out, thenO_some]; exact WrP.whole HKW.out HK2.out HN2.out hs1 h)
   rcases h.ends with rfl | rfl
   ·clear h
    go_wp2_with fail
    go_end0
    exact HG.out
   ·clear h
    go_wp2_with fail
    exact ⟨rfl, HG.out⟩

set_option maxRecDepth 100000 in
set_option maxHeartbeats 3200000 in
theorem frame_7 (B wb : Nat) (a : Option Addr) (n c : Nat) (xs : List UInt8) (f : Qf) (w : World) (hw : Wr B w wb a n c xs) (hf : ∀ w', Below B w w' → Qin w' f) (ht : f.c.t = 7) (hn : n ≤ 10000000) (hn8 : f.n ≤ 1000000) (hB : B ≤ w.heap.size) :
  Calls Try.prog 24 #[.pointer (some ⟨wb, 0, none⟩), .agg f.cs] w (WrP B wb a (encO xs f.c) w) := by
 have HW := Lib.hid hw
 have HF := Lib.hid hf
 have HWF := Lib.hid (hf w (Below.refl _ _)).wf
 have HXL := Lib.hid (hf w (Below.refl _ _)).b.1
 have HK0 : Hid (Keeps (fun _ => False) w (w.alloc (.cells f.cs 32 (0, 0)))) := Lib.hid ((Keeps.refl _ w).alloc _)
 have HL1 := Lib.hid (Blk.new w f.cs 32)
 clear hw hf
 have HT := Lib.hid ht
 have e0 : (f.c.t == 0) = false := by simp [ht]
 have e1 : (f.c.t == 1) = false := by simp [ht]
 have e30 : (f.c.t == 30) = false := by simp [ht]
 have e2 : (f.c.t == 2) = false := by simp [ht]
 have e4 : (f.c.t == 4) = false := by simp [ht]
 have e5 : (f.c.t == 5) = false := by simp [ht]
 have e6 : (f.c.t == 6) = false := by simp [ht]
 have e7 : (f.c.t == 7) = true := by simp [ht]
 have HPL := Lib.hid (plan_7 ht)
 clear ht
 unfold Qf.cs at HK0 HL1 ⊢
 have HW1 := Lib.hid (HW.out.same HK0.out)
 go_enter Try.func24, Try.ntmps24
 go_upto_region 1 with fail
 refine wp_named ?_
 intro w1 hw1
 rw [hw1] at HK0 HL1 HW1
 have hs1 : w.heap.size ≤ w1.heap.size := HK0.out.size
 have HFR : Hid (¬ wrS B wb a w.heap.size) := Lib.hid (HW.out.fresh (Nat.le_refl _))
 have HB1 : Hid (Below B w w1) := Lib.hid (Keeps.below (Below.refl B w) HK0.out hB (fun _ h => False.elim h))
 have HK1 : Hid (Keeps (wrS B wb a) w1 w1) := Lib.hid (Keeps.refl _ _)
 have HN1 : Hid (Near B w1 a a) := Lib.hid (Near.refl B w1 a)
 have HKW : Hid (Keeps (wrS B wb a) w w1) := Lib.hid HK0.out.to
 clear hw1
 generalize w.heap.size = fb at *
 have hB1 : B ≤ w1.heap.size := by omega
 have q0 : w1.cell? ⟨fb, 0, none⟩ = some (.int .u64 f.c.t) := HL1.out.cell 0
 have q8 : w1.cell? ⟨fb, 8, none⟩ = some (.slice f.a f.n f.cap) := HL1.out.cell 8
 by_cases hm : 0 < f.n
 ·have hmd : decide ((0 : Int) < (f.n : Int)) = true := by simp; omega
  have hmd2 : 0 < f.n := hm
  have HM : Hid (0 < f.c.xs.length) := Lib.hid (by rw [← HXL.out]; exact hm)
  have HE8 : Hid (encO xs f.c = thenO (numsO xs [f.c.t]) (varsE [(f.n : Int)] ++ f.c.xs)) := Lib.hid (by
   refine encO_text (by rw [HT.out]; decide) (l' := [7, (f.c.xs.length : Int)]) (by rw [HPL.out, if_pos HM.out]) (by rw [HT.out, HXL.out]; rfl) hn8)
  go_wp2_with fail
  refine (must_ok w1).mono ?_
  rintro e w' ⟨rfl, rfl⟩
  clear q8 hmd hmd2
  go_wp2_with fail
  clear q0
  refine (nums_new B wb a n c xs _ 1 [f.c.t] w1 HW1.out (Uv.one' w1 _ f.c.t HWF.out.t) (by omega) (by omega) hB1).mono ?_
  rintro e w2 ⟨hk, hr⟩
  cases hv : varsOK [f.c.t] with
  | false =>
   rw [numsO_no hv] at hr
   have hr' : e = .panicked [{ v := stopV, recovered := false }] := hr
   subst hr'
   have HV := Lib.hid hv
   have HK2 := Lib.hid (wrS_trans HK1.out HN1.out hk)
   clear hv hr hk
   go_wp2_with fail
   refine ⟨rfl, ?_⟩
   rw [HE8.out, numsO_no HV.out, thenO_none]
   exact WrP.panic (Keeps.trans2 HKW.out HK2.out (fun _ _ h => h))
  | true =>
   rw [numsO_yes hv] at hr
   obtain ⟨rfl, a2, n2, c2, hw2, hn2⟩ := hr
   have HV2 := Lib.hid hv
   have HK2 := Lib.hid (wrS_trans HK1.out HN1.out hk)
   have HN2 := Lib.hid (wrS_near HN1.out HK1.out hn2)
   have HW2 := Lib.hid hw2
   have HL2 := Lib.hid (HK2.out.blk HL1.out HFR.out)
   have HB2 : Hid (Below B w w2) := Lib.hid (wrS_below HK2.out HB1.out hB1 HW.out.le)
   have hB2 : B ≤ w2.heap.size := by have := HK2.out.size; omega
   have hln2 : n2 ≤ n + 8 := by
    have h1 := hw2.len
    have h2 := HW1.out.len
    have h3 := numsO_len (numsO_yes (xs := xs) hv)
    simp only [List.length_cons, List.length_nil] at h3
    omega
   clear hv hk hw2 hn2
   have q8 : w2.cell? ⟨fb, 8, none⟩ = some (.slice f.a f.n f.cap) := HL2.out.cell 8
   go_wp2_with fail
   clear q8
   refine (text_any B wb a2 n2 c2 (xs ++ varsE [f.c.t]) f.a f.n f.cap f.c.xs w2 HW2.out (fun w' h => (HF.out w' (HB2.out.trans h)).b) (by omega) hn8 hB2).mono ?_
   rintro e w9 h
   have HG : Hid (WrP B wb a (encO xs f.c) w e w9) := Lib.hid (by rw [HE8.out, numsO_yes HV2.out, thenO_some]; exact WrP.whole HKW.out HK2.out HN2.out hs1 h)
   rcases h.ends with rfl | rfl
   ·clear h
    go_wp2_with fail
    go_end0
    exact HG.out
   ·clear h
    go_wp2_with fail
    exact ⟨rfl, HG.out⟩
 ·have hm0 : f.n = 0 := by omega
  have hmd : decide (0 < f.n) = false := decide_eq_false (by omega)
  have HM : Hid (¬ 0 < f.c.xs.length) := Lib.hid (by rw [← HXL.out]; exact hm)
  clear hm0 hm
  go_wp2_with fail
  refine (must_no w1).mono ?_
  rintro e w' ⟨rfl, rfl⟩
  go_wp2_with fail
  refine ⟨rfl, ?_⟩
  rw [encO_no (by rw [HT.out]; decide) (by rw [HPL.out, if_neg HM.out])]
  exact WrP.panic (Keeps.trans2 HKW.out HK1.out (fun _ _ h => h))

set_option maxRecDepth 100000 in
set_option maxHeartbeats 3200000 in
theorem frame_0 (B wb : Nat) (a : Option Addr) (n c : Nat) (xs : List UInt8) (f : Qf) (w : World) (hw : Wr B w wb a n c xs) (hf : ∀ w', Below B w w' → Qin w' f) (ht : f.c.t = 0) (hNm : f.c.N ≤ 100000) (hn : n ≤ 10000000) (hn8 : f.n ≤ 1000000) (hB : B ≤ w.heap.size) :
  Calls Try.prog 24 #[.pointer (some ⟨wb, 0, none⟩), .agg f.cs] w (WrP B wb a (encO xs f.c) w) := by
 have HW := Lib.hid hw
 have HF := Lib.hid hf
 have HWF := Lib.hid (hf w (Below.refl _ _)).wf
 have HXL := Lib.hid (hf w (Below.refl _ _)).b.1
 have HK0 : Hid (Keeps (fun _ => False) w (w.alloc (.cells f.cs 32 (0, 0)))) := Lib.hid ((Keeps.refl _ w).alloc _)
 have HL1 := Lib.hid (Blk.new w f.cs 32)
 clear hw hf
 have HT := Lib.hid ht
 have e0 : (f.c.t == 0) = true := by simp [ht]
 clear ht
 unfold Qf.cs at HK0 HL1 ⊢
 have HW1 := Lib.hid (HW.out.same HK0.out)
 go_enter Try.func24, Try.ntmps24
 go_upto_region 1 with fail
 refine wp_named ?_
 intro w1 hw1
 rw [hw1] at HK0 HL1 HW1
 have hs1 : w.heap.size ≤ w1.heap.size := HK0.out.size
 have HFR : Hid (¬ wrS B wb a w.heap.size) := Lib.hid (HW.out.fresh (Nat.le_refl _))
 have HB1 : Hid (Below B w w1) := Lib.hid (Keeps.below (Below.refl B w) HK0.out hB (fun _ h => False.elim h))
 have HK1 : Hid (Keeps (wrS B wb a) w1 w1) := Lib.hid (Keeps.refl _ _)
 have HN1 : Hid (Near B w1 a a) := Lib.hid (Near.refl B w1 a)
 have HKW : Hid (Keeps (wrS B wb a) w w1) := Lib.hid HK0.out.to
 clear hw1
 generalize w.heap.size = fb at *
 have hB1 : B ≤ w1.heap.size := by omega
 have q0 : w1.cell? ⟨fb, 0, none⟩ = some (.int .u64 f.c.t) := HL1.out.cell 0
 by_cases hn1 : f.c.N < 1
 ·have hn1' : f.c.N ≤ 0 := by omega
  have HE8 : Hid (encO xs f.c = some (xs ++ List.replicate 1 0)) := Lib.hid (by unfold encO encQ; rw [if_pos HT.out]; rw [if_pos (by omega)]; rfl)
  go_wp2_with fail
  have hne1 : Hid (∀ b, a.map (·.block) = some b → b ≠ fb) := Lib.hid (near_ne HN1.out HFR.out HL1.out.lt HW1.out)
  have HKd : Hid (Keeps (fun _ => False) w1 w1.drew) := Lib.hid (Keeps.refl _ _).drew
  have HWd := Lib.hid (HW1.out.same HKd.out)
  have HLd := Lib.hid (HKd.out.blk HL1.out (fun h => h))
  have hBd : B ≤ w1.drew.heap.size := hB1
  refine z_begin (fun w' : World => w'.cell? ⟨wb, 0, none⟩ = some (.slice a n c) ∧ w'.cell? ⟨fb, 11, none⟩ = some (.int .i64 f.c.N)) 11 (by kernel_rfl) ?_
  change wpAnyZ _ _ _ _ _ _ _ _ _ (World.drew _)
  have hS : (fun w' : World => w'.cell? ⟨wb, 0, none⟩ = some (.slice a n c) ∧ w'.cell? ⟨fb, 11, none⟩ = some (.int .i64 f.c.N)) w1.drew := ⟨HWd.out.k.cell 0, HLd.out.cell 11⟩
  refine z_take (i := 0) (v := ?_) rfl (by kernel_rfl) (by kernel_rfl) (by kernel_rfl) (by kernel_rfl) (fun _ _ _ h => h) (Or.inl ⟨by kernel_rfl, ?_⟩) hS ?_
  rotate_left
  ·intro wz ⟨_, _⟩; go_simp; try with_reducible rfl
  refine z_take (i := 1) (v := ?_) rfl (by kernel_rfl) (by kernel_rfl) (by kernel_rfl) (by kernel_rfl) (fun _ _ _ h => h) (Or.inl ⟨by kernel_rfl, ?_⟩) hS ?_
  rotate_left
  ·intro wz ⟨_, _⟩; go_simp; try with_reducible rfl
  refine z_take (i := 2) (v := ?_) rfl (by kernel_rfl) (by kernel_rfl) (by kernel_rfl) (by kernel_rfl) (fun _ _ _ h => h) (Or.inl ⟨by kernel_rfl, ?_⟩) hS ?_
  rotate_left
  ·intro wz ⟨_, _⟩; go_simp; try with_reducible rfl
  refine z_take (i := 3) (v := ?_) rfl (by kernel_rfl) (by kernel_rfl) (by kernel_rfl) (by kernel_rfl) (fun _ _ _ h => h) (Or.inl ⟨by kernel_rfl, ?_⟩) hS ?_
  rotate_left
  ·intro wz ⟨_, _⟩; go_simp; try with_reducible rfl
  refine z_take (i := 4) (v := ?_) rfl (by kernel_rfl) (by kernel_rfl) (by kernel_rfl) (by kernel_rfl) (fun _ _ _ h => h) (Or.inl ⟨by kernel_rfl, ?_⟩) hS ?_
  rotate_left
  ·intro wz ⟨_, _⟩; go_simp; try with_reducible rfl
  refine z_take (i := 5) (v := ?_) rfl (by kernel_rfl) (by kernel_rfl) (by kernel_rfl) (by kernel_rfl) (fun _ _ _ h => h) (Or.inl ⟨by kernel_rfl, ?_⟩) hS ?_
  rotate_left
  ·intro wz ⟨_, _⟩; go_simp; try with_reducible rfl
  refine z_take (i := 6) (v := ?_) rfl (by kernel_rfl) (by kernel_rfl) (by kernel_rfl) (by kernel_rfl) (fun _ _ _ h => h) (Or.inl ⟨by kernel_rfl, ?_⟩) hS ?_
  rotate_left
  ·intro wz ⟨_, _⟩; go_simp; try with_reducible rfl
  refine z_take (i := 7) (v := ?_) rfl (by kernel_rfl) (by kernel_rfl) (by kernel_rfl) (by kernel_rfl) (fun _ _ _ h => h) (Or.inl ⟨by kernel_rfl, ?_⟩) hS ?_
  rotate_left
  ·intro wz ⟨_, _⟩; go_simp; try with_reducible rfl
  refine z_zero (i := 8) rfl (by kernel_rfl) (by kernel_rfl) (.tmp 15) (.tmp 18) rfl B a n c xs (by kernel_rfl) HWd.out.o 1 (by omega) (by kernel_rfl) (by omega) hBd ?_
  intro a3 c3 w3 ho3 hk3 hn3
  have HNA : Hid (Near B w1.drew a a3) := Lib.hid hn3
  refine ⟨⟨(hk3.blk HWd.out.k (fun h => HWd.out.ne wb h.2 rfl)).cell 0, (hk3.blk HLd.out (fun h => hne1.out fb h.2 rfl)).cell 11⟩, ?_⟩
  clear hS
  have hS : (fun w' : World => w'.cell? ⟨wb, 0, none⟩ = some (.slice a n c) ∧ w'.cell? ⟨fb, 11, none⟩ = some (.int .i64 f.c.N)) w3 := ⟨(hk3.blk HWd.out.k (fun h => HWd.out.ne wb h.2 rfl)).cell 0, (hk3.blk HLd.out (fun h => hne1.out fb h.2 rfl)).cell 11⟩
  refine z_do (i := 9) (.pointer (some ⟨wb, 0, none⟩)) w3 rfl (by kernel_rfl) (by kernel_rfl) ?_ hS ?_
  ·go_simp; try with_reducible rfl
  refine z_do (i := 10) (.pointer (some ⟨wb, 0, none⟩)) w3 rfl (by kernel_rfl) (by kernel_rfl) ?_ hS ?_
  ·go_simp; try with_reducible rfl
  have hwl := hk3.blk HWd.out.k (fun h => HWd.out.ne wb h.2 rfl)
  have d0 : w3.cell? ⟨wb, 0, none⟩ = some (.slice a n c) := hwl.cell 0
  have y0 : w3.frozen? ⟨wb, 0, none⟩ = false := hwl.free 0
  have HA := Lib.hid (HWd.out.app ho3 hk3 hn3)
  clear hwl
  refine z_last (w3.setCell ⟨wb, 0, none⟩ (.slice a3 (n + 1) c3)) rfl (by kernel_rfl) (by kernel_rfl) ?_ (by kernel_rfl) ?_
  ·go_simp; try with_reducible rfl
  refine ⟨by kernel_rfl, .tuple #[], by simp [results, Try.results24, go_sem], ?_⟩
  rw [HE8.out]
  have hkA := wrS_trans HK1.out HN1.out (HKd.out.to.trans HA.out.2)
  exact ⟨Keeps.trans2 HKW.out hkA (fun _ _ h => h), rfl, _, _, _, HA.out.1, near_to (wrS_near HN1.out HK1.out (near_to HNA.out HKd.out.size)) HKW.out.size⟩
 ·obtain ⟨N, hN⟩ : ∃ N : Nat, f.c.N = N := ⟨f.c.N.toNat, by omega⟩
  have hn1' : 1 ≤ f.c.N := by omega
  have hn2 : ¬ ((N : Int) < 1) := by omega
  have HE8 : Hid (encO xs f.c = some (xs ++ List.replicate N 0)) := Lib.hid (by unfold encO encQ; rw [if_pos HT.out]; rw [if_neg (by omega), hN]; rfl)
  go_wp2_with fail
  have hne1 : Hid (∀ b, a.map (·.block) = some b → b ≠ fb) := Lib.hid (near_ne HN1.out HFR.out HL1.out.lt HW1.out)
  have HKd : Hid (Keeps (fun _ => False) w1 w1.drew) := Lib.hid (Keeps.refl _ _).drew
  have HWd := Lib.hid (HW1.out.same HKd.out)
  have HLd := Lib.hid (HKd.out.blk HL1.out (fun h => h))
  have hBd : B ≤ w1.drew.heap.size := hB1
  refine z_begin (fun w' : World => w'.cell? ⟨wb, 0, none⟩ = some (.slice a n c) ∧ w'.cell? ⟨fb, 11, none⟩ = some (.int .i64 f.c.N)) 11 (by kernel_rfl) ?_
  change wpAnyZ _ _ _ _ _ _ _ _ _ (World.drew _)
  have hS : (fun w' : World => w'.cell? ⟨wb, 0, none⟩ = some (.slice a n c) ∧ w'.cell? ⟨fb, 11, none⟩ = some (.int .i64 f.c.N)) w1.drew := ⟨HWd.out.k.cell 0, HLd.out.cell 11⟩
  refine z_take (i := 0) (v := ?_) rfl (by kernel_rfl) (by kernel_rfl) (by kernel_rfl) (by kernel_rfl) (fun _ _ _ h => h) (Or.inl ⟨by kernel_rfl, ?_⟩) hS ?_
  rotate_left
  ·intro wz ⟨_, _⟩; go_simp; try with_reducible rfl
  refine z_take (i := 1) (v := ?_) rfl (by kernel_rfl) (by kernel_rfl) (by kernel_rfl) (by kernel_rfl) (fun _ _ _ h => h) (Or.inl ⟨by kernel_rfl, ?_⟩) hS ?_
  rotate_left
  ·intro wz ⟨_, _⟩; go_simp; try with_reducible rfl
  refine z_take (i := 2) (v := ?_) rfl (by kernel_rfl) (by kernel_rfl) (by kernel_rfl) (by kernel_rfl) (fun _ _ _ h => h) (Or.inl ⟨by kernel_rfl, ?_⟩) hS ?_
  rotate_left
  ·intro wz ⟨_, _⟩; go_simp; try with_reducible rfl
  refine z_take (i := 3) (v := ?_) rfl (by kernel_rfl) (by kernel_rfl) (by kernel_rfl) (by kernel_rfl) (fun _ _ _ h => h) (Or.inl ⟨by kernel_rfl, ?_⟩) hS ?_
  rotate_left
  ·intro wz ⟨_, _⟩; go_simp; try with_reducible rfl
  refine z_take (i := 4) (v := ?_) rfl (by kernel_rfl) (by kernel_rfl) (by kernel_rfl) (by kernel_rfl) (fun _ _ _ h => h) (Or.inl ⟨by kernel_rfl, ?_⟩) hS ?_
  rotate_left
  ·intro wz ⟨_, _⟩; go_simp; try with_reducible rfl
  refine z_take (i := 5) (v := ?_) rfl (by kernel_rfl) (by kernel_rfl) (by kernel_rfl) (by kernel_rfl) (fun _ _ _ h => h) (Or.inl ⟨by kernel_rfl, ?_⟩) hS ?_
  rotate_left
  ·intro wz ⟨_, _⟩; go_simp; try with_reducible rfl
  refine z_take (i := 6) (v := ?_) rfl (by kernel_rfl) (by kernel_rfl) (by kernel_rfl) (by kernel_rfl) (fun _ _ _ h => h) (Or.inl ⟨by kernel_rfl, ?_⟩) hS ?_
  rotate_left
  ·intro wz ⟨_, _⟩; go_simp; try with_reducible rfl
  refine z_take (i := 7) (v := .int .i64 (N : Int)) rfl (by kernel_rfl) (by kernel_rfl) (by kernel_rfl) (by kernel_rfl) (fun _ _ _ h => h) (Or.inl ⟨by kernel_rfl, ?_⟩) hS ?_
  ·intro wz ⟨_, _⟩; go_simp; (try (intro h; omega))
  refine z_zero (i := 8) rfl (by kernel_rfl) (by kernel_rfl) (.tmp 15) (.tmp 18) rfl B a n c xs (by kernel_rfl) HWd.out.o N (by omega) (by kernel_rfl) (by omega) hBd ?_
  intro a3 c3 w3 ho3 hk3 hn3
  have HNA : Hid (Near B w1.drew a a3) := Lib.hid hn3
  refine ⟨⟨(hk3.blk HWd.out.k (fun h => HWd.out.ne wb h.2 rfl)).cell 0, (hk3.blk HLd.out (fun h => hne1.out fb h.2 rfl)).cell 11⟩, ?_⟩
  clear hS
  have hS : (fun w' : World => w'.cell? ⟨wb, 0, none⟩ = some (.slice a n c) ∧ w'.cell? ⟨fb, 11, none⟩ = some (.int .i64 f.c.N)) w3 := ⟨(hk3.blk HWd.out.k (fun h => HWd.out.ne wb h.2 rfl)).cell 0, (hk3.blk HLd.out (fun h => hne1.out fb h.2 rfl)).cell 11⟩
  refine z_do (i := 9) (.pointer (some ⟨wb, 0, none⟩)) w3 rfl (by kernel_rfl) (by kernel_rfl) ?_ hS ?_
  ·go_simp; try with_reducible rfl
  refine z_do (i := 10) (.pointer (some ⟨wb, 0, none⟩)) w3 rfl (by kernel_rfl) (by kernel_rfl) ?_ hS ?_
  ·go_simp; try with_reducible rfl
  have hwl := hk3.blk HWd.out.k (fun h => HWd.out.ne wb h.2 rfl)
  have d0 : w3.cell? ⟨wb, 0, none⟩ = some (.slice a n c) := hwl.cell 0
  have y0 : w3.frozen? ⟨wb, 0, none⟩ = false := hwl.free 0
  have HA := Lib.hid (HWd.out.app ho3 hk3 hn3)
  clear hwl
  refine z_last (w3.setCell ⟨wb, 0, none⟩ (.slice a3 (n + N) c3)) rfl (by kernel_rfl) (by kernel_rfl) ?_ (by kernel_rfl) ?_
  ·go_simp; try with_reducible rfl
  refine ⟨by kernel_rfl, .tuple #[], by simp [results, Try.results24, go_sem], ?_⟩
  rw [HE8.out]
  have hkA := wrS_trans HK1.out HN1.out (HKd.out.to.trans HA.out.2)
  exact ⟨Keeps.trans2 HKW.out hkA (fun _ _ h => h), rfl, _, _, _, HA.out.1, near_to (wrS_near HN1.out HK1.out (near_to HNA.out HKd.out.size)) HKW.out.size⟩

set_option maxRecDepth 100000 in
set_option maxHeartbeats 3200000 in
theorem frame_other (B wb : Nat) (a : Option Addr) (n c : Nat) (xs : List UInt8) (f : Qf) (w : World) (hw : Wr B w wb a n c xs) (hf : ∀ w', Below B w w' → Qin w' f) (ht : f.c.t ∉ [0, 1, 30, 2, 4, 5, 6, 7, 8]) (hn : n ≤ 10000000) (hn8 : f.n ≤ 1000000) (hB : B ≤ w.heap.size) :
  Calls Try.prog 24 #[.pointer (some ⟨wb, 0, none⟩), .agg f.cs] w (WrP B wb a (encO xs f.c) w) := by
 have HW := Lib.hid hw
 have HF := Lib.hid hf
 have HWF := Lib.hid (hf w (Below.refl _ _)).wf
 have HXL := Lib.hid (hf w (Below.refl _ _)).b.1
 have HK0 : Hid (Keeps (fun _ => False) w (w.alloc (.cells f.cs 32 (0, 0)))) := Lib.hid ((Keeps.refl _ w).alloc _)
 have HL1 := Lib.hid (Blk.new w f.cs 32)
 clear hw hf
 have HT := Lib.hid ht
 have e0 : (f.c.t == 0) = false := by have h : f.c.t ≠ 0 := fun e => ht (by rw [e]; decide); simpa using h
 have e1 : (f.c.t == 1) = false := by have h : f.c.t ≠ 1 := fun e => ht (by rw [e]; decide); simpa using h
 have e30 : (f.c.t == 30) = false := by have h : f.c.t ≠ 30 := fun e => ht (by rw [e]; decide); simpa using h
 have e2 : (f.c.t == 2) = false := by have h : f.c.t ≠ 2 := fun e => ht (by rw [e]; decide); simpa using h
 have e4 : (f.c.t == 4) = false := by have h : f.c.t ≠ 4 := fun e => ht (by rw [e]; decide); simpa using h
 have e5 : (f.c.t == 5) = false := by have h : f.c.t ≠ 5 := fun e => ht (by rw [e]; decide); simpa using h
 have e6 : (f.c.t == 6) = false := by have h : f.c.t ≠ 6 := fun e => ht (by rw [e]; decide); simpa using h
 have e7 : (f.c.t == 7) = false := by have h : f.c.t ≠ 7 := fun e => ht (by rw [e]; decide); simpa using h
 have e8 : (f.c.t == 8) = false := by have h : f.c.t ≠ 8 := fun e => ht (by rw [e]; decide); simpa using h
 clear ht
 unfold Qf.cs at HK0 HL1 ⊢
 have HW1 := Lib.hid (HW.out.same HK0.out)
 go_enter Try.func24, Try.ntmps24
 go_upto_region 1 with fail
 refine wp_named ?_
 intro w1 hw1
 rw [hw1] at HK0 HL1 HW1
 have hs1 : w.heap.size ≤ w1.heap.size := HK0.out.size
 have HFR : Hid (¬ wrS B wb a w.heap.size) := Lib.hid (HW.out.fresh (Nat.le_refl _))
 have HB1 : Hid (Below B w w1) := Lib.hid (Keeps.below (Below.refl B w) HK0.out hB (fun _ h => False.elim h))
 have HK1 : Hid (Keeps (wrS B wb a) w1 w1) := Lib.hid (Keeps.refl _ _)
 have HN1 : Hid (Near B w1 a a) := Lib.hid (Near.refl B w1 a)
 have HKW : Hid (Keeps (wrS B wb a) w w1) := Lib.hid HK0.out.to
 clear hw1
 generalize w.heap.size = fb at *
 have hB1 : B ≤ w1.heap.size := by omega
 have q0 : w1.cell? ⟨fb, 0, none⟩ = some (.int .u64 f.c.t) := HL1.out.cell 0
 have q1 : w1.cell? ⟨fb, 1, none⟩ = some (.int .u64 f.c.id) := HL1.out.cell 1
 have q2 : w1.cell? ⟨fb, 2, none⟩ = some (.int .u64 f.c.off) := HL1.out.cell 2
 have q3 : w1.cell? ⟨fb, 3, none⟩ = some (.bool f.c.fin) := HL1.out.cell 3
 have q4 : w1.cell? ⟨fb, 4, none⟩ = some (.int .u64 f.c.mx) := HL1.out.cell 4
 have q5 : w1.cell? ⟨fb, 5, none⟩ = some (.int .u64 f.c.code) := HL1.out.cell 5
 have q6 : w1.cell? ⟨fb, 6, none⟩ = some (.int .u64 f.c.delay) := HL1.out.cell 6
 have q7 : w1.cell? ⟨fb, 7, none⟩ = some (.slice f.ra f.rn f.rc) := HL1.out.cell 7
 have q8 : w1.cell? ⟨fb, 8, none⟩ = some (.slice f.a f.n f.cap) := HL1.out.cell 8
 have q9 : w1.cell? ⟨fb, 9, none⟩ = some (.bool f.c.uni) := HL1.out.cell 9
 have q10 : w1.cell? ⟨fb, 10, none⟩ = some (.bool f.c.app) := HL1.out.cell 10
 have q11 : w1.cell? ⟨fb, 11, none⟩ = some (.int .i64 f.c.N) := HL1.out.cell 11
 go_wp2_with fail
 clear q0 q1 q2 q3 q4 q5 q6 q7 q8 q9 q10 q11
 refine (other_any B wb a n c xs f w1 HW1.out (fun w' h => HF.out w' (HB1.out.trans h)) HT.out (by omega) hn8 hB1).mono ?_
 rintro e w9 h
 have HG : Hid (WrP B wb a (encO xs f.c) w e w9) := Lib.hid (by skip; exact WrP.whole HKW.out HK1.out HN1.out hs1 h)
 rcases h.ends with rfl | rfl
 ·clear h
  go_wp2_with fail
  go_end0
  exact HG.out
 ·clear h
  go_wp2_with fail
  exact ⟨rfl, HG.out⟩

theorem frame_any (B wb : Nat) (a : Option Addr) (n c : Nat) (xs : List UInt8) (f : Qf) (w : World) (hw : Wr B w wb a n c xs) (hf : ∀ w', Below B w w' → Qin w' f) (hN : f.c.N ≤ 100000) (hn : n ≤ 10000000) (hn8 : f.n ≤ 1000000) (hB : B ≤ w.heap.size) :
  Calls Try.prog 24 #[.pointer (some ⟨wb, 0, none⟩), .agg f.cs] w (WrP B wb a (encO xs f.c) w) := by
 by_cases h0 : f.c.t = 0
 ·exact frame_0 B wb a n c xs f w hw hf h0 hN hn hn8 hB
 by_cases h1 : f.c.t = 1
 ·exact frame_1 B wb a n c xs f w hw hf h1 hn hn8 hB
 by_cases h30 : f.c.t = 30
 ·exact frame_30 B wb a n c xs f w hw hf h30 hn hn8 hB
 by_cases h2 : f.c.t = 2
 ·exact frame_2 B wb a n c xs f w hw hf h2 hn hn8 hB
 by_cases h4 : f.c.t = 4
 ·exact frame_4 B wb a n c xs f w hw hf h4 hn hn8 hB
 by_cases h5 : f.c.t = 5
 ·exact frame_5 B wb a n c xs f w hw hf h5 hn hn8 hB
 by_cases h6 : f.c.t = 6
 ·exact frame_6 B wb a n c xs f w hw hf h6 hn hn8 hB
 by_cases h7 : f.c.t = 7
 ·exact frame_7 B wb a n c xs f w hw hf h7 hn hn8 hB
 by_cases h8 : f.c.t = 8
 ·exact frame_8 B wb a n c xs f w hw hf h8 hn hn8 hB
 refine frame_other B wb a n c xs f w hw hf ?_ hn hn8 hB
 simp only [List.mem_cons, List.not_mem_nil, or_false, not_or]
 exact ⟨h0, h1, h30, h2, h4, h5, h6, h7, h8⟩

end Go.Proofs.Ytgfkgmmigbpciaa
