/- One of the reference: the rest. -/
import Derived.Test.YtgfkgmmigbpciaaQfP
namespace Go.Proofs.Ytgfkgmmigbpciaa
set_option linter.unusedSimpArgs false
set_option linter.unusedVariables false
open Go.RowKit Go.Deep

set_option maxRecDepth 100000 in
set_option maxHeartbeats 3200000 in
theorem one_8_z (B : Nat) (a : Option Addr) (n c : Nat) (xs : List UInt8) (f : Qf) (w : World) (hd : Sb B w a n c xs) (hf : ∀ w', Below B w w' → Qin w' f) (ht : f.c.t = 8) (hoff : f.c.off = 0) (hfin : f.c.fin = false) (hn : n ≤ 10000000) (hn8 : f.n ≤ 1000000) (hB : B ≤ w.heap.size) :
  Calls Try.prog 25 #[.slice a n c, .agg f.cs] w (OneP B a (encO xs f.c) w) := by
 have HD := Lib.hid hd
 have HF := Lib.hid hf
 have HWF := Lib.hid (hf w (Below.refl _ _)).wf
 have HXL := Lib.hid (hf w (Below.refl _ _)).b.1
 have HK0 : Hid (Keeps (fun _ => False) w (w.alloc (.cells f.cs 32 (0, 0)))) := Lib.hid ((Keeps.refl _ w).alloc _)
 have HL1 := Lib.hid (Blk.new w f.cs 32)
 clear hd hf
 have HO := Lib.hid hoff
 have HFI := Lib.hid hfin
 clear hoff hfin
 have HT := Lib.hid ht
 have e0 : (f.c.t == 0) = false := by simp [ht]
 have e1 : (f.c.t == 1) = false := by simp [ht]
 have e30 : (f.c.t == 30) = false := by simp [ht]
 have e2 : (f.c.t == 2) = false := by simp [ht]
 have e4 : (f.c.t == 4) = false := by simp [ht]
 have e5 : (f.c.t == 5) = false := by simp [ht]
 have e6 : (f.c.t == 6) = false := by simp [ht]
 have e7 : (f.c.t == 7) = false := by simp [ht]
 have e8 : (f.c.t == 8) = true := by simp [ht]
 have HPL := Lib.hid (plan_8 ht)
 clear ht
 unfold Qf.cs at HK0 HL1 ⊢
 have HD1 := Lib.hid (HD.out.same HK0.out)
 go_enter Try.func25, Try.ntmps25
 go_upto_region 1 with fail
 refine wp_named ?_
 intro w1 hw1
 rw [hw1] at HK0 HL1 HD1
 have hs1 : w.heap.size ≤ w1.heap.size := HK0.out.size
 have HFR : Hid (¬ mine B a w.heap.size) := Lib.hid (HD.out.fresh (Nat.le_refl _))
 have HB1 : Hid (Below B w w1) := Lib.hid (Keeps.below (Below.refl B w) HK0.out hB (fun _ h => False.elim h))
 clear hw1
 generalize w.heap.size = fb at *
 have hB1 : B ≤ w1.heap.size := by omega
 have hx8 : IntKind.u64.wrap (f.n : Int) = (f.n : Int) := by rw [IntKind.wrap_u64]; omega
 have q8 : w1.cell? ⟨fb, 8, none⟩ = some (.slice f.a f.n f.cap) := HL1.out.cell 8
 have q0 : w1.cell? ⟨fb, 0, none⟩ = some (.int .u64 f.c.t) := HL1.out.cell 0
 have q1 : w1.cell? ⟨fb, 1, none⟩ = some (.int .u64 f.c.id) := HL1.out.cell 1
 have q2 : w1.cell? ⟨fb, 2, none⟩ = some (.int .u64 f.c.off) := HL1.out.cell 2
 have q3 : w1.cell? ⟨fb, 3, none⟩ = some (.bool f.c.fin) := HL1.out.cell 3
 have dof : decide ((0 : Int) < f.c.off) = false := by have := HWF.out.off.1; have := HO.out; simp; omega
 by_cases h0 : f.c.id ≤ 4611686018427387903
 ·have d1 : decide ((4611686018427387903 : Int) < f.c.id) = false := by simp; omega
  by_cases h1 : f.c.off ≤ 4611686018427387903
  ·have d2 : decide ((4611686018427387903 : Int) < f.c.off) = false := by simp; omega
   have hwr : IntKind.u64.wrap (f.c.off + (f.n : Int)) = f.c.off + (f.n : Int) := by have := HWF.out.off.1; rw [IntKind.wrap_u64]; omega
   by_cases h2 : f.c.off + (f.n : Int) ≤ 4611686018427387903
   ·have d3 : decide ((4611686018427387903 : Int) < f.c.off + (f.n : Int)) = false := by simp; omega
    have HEN : Hid (endB f.c.off f.n = true) := Lib.hid (by unfold endB; simp; omega)
    have hfin : f.c.fin = false := HFI.out
    have hor1 : bits .or .u64 10 4 = 14 := by decide +kernel
    have hor2 : bits .or .u64 14 1 = 15 := by decide +kernel
    have hor3 : bits .or .u64 10 1 = 11 := by decide +kernel
    have HV : Hid (varsOK ([10, f.c.id] ++ [(f.n : Int)]) = true) := Lib.hid (by simp [varsOK]; omega)
    have HE8 : Hid (encO xs f.c = some (xs ++ varsE ([10, f.c.id] ++ [(f.n : Int)]) ++ f.c.xs)) := Lib.hid (by
     rw [encO_plan (by rw [HT.out]; decide) (l := [10, f.c.id] ++ [(f.n : Int)]) (tl := f.c.xs) (by rw [HPL.out, ← HXL.out, HEN.out, if_pos rfl, if_pos HO.out, strT_0 HO.out, HFI.out]; rfl), numsO_yes HV.out, thenO_some])
    have HU0 := Lib.hid (Uo.new (L := w1.heap.size) (w := w1) (cs := #[.int .u64 0, .int .u64 f.c.id]) (k := 2) (vs := [0, f.c.id]) rfl rfl (by omega) (Nat.le_refl _))
    have HPI : Hid (∀ v ∈ [10, f.c.id] ++ [(f.n : Int)], inU v) := Lib.hid (by
     intro v hv
     simp only [List.cons_append, List.nil_append, List.mem_cons, List.not_mem_nil, or_false] at hv
     rcases hv with rfl | rfl | rfl
     ·exact ⟨by omega, by omega⟩
     ·exact HWF.out.id

     ·exact ⟨by omega, by omega⟩)
    have hka0 : Keeps (fun _ => False) w1 (w1.alloc (.cells #[.int .u64 0, .int .u64 f.c.id] 29 (0, 0))) := (Keeps.refl _ _).alloc _
    have HKA := Lib.hid hka0
    have HLA := Lib.hid (hka0.blk HL1.out (fun h => h))
    have s2 : (w1.alloc (.cells #[.int .u64 0, .int .u64 f.c.id] 29 (0, 0))).cell? ⟨fb, 2, none⟩ = some (.int .u64 f.c.off) := HLA.out.cell 2
    have s3 : (w1.alloc (.cells #[.int .u64 0, .int .u64 f.c.id] 29 (0, 0))).cell? ⟨fb, 3, none⟩ = some (.bool f.c.fin) := HLA.out.cell 3
    clear hka0
    go_wp2_with fail
    clear q0 q1 q2 q3 q8 s2 s3 hfin dof d1 d2 d3 hwr
    have HKX : Hid (Keeps (fun _ => False) w1 (w1.alloc (.cells #[.int .u64 10, .int .u64 f.c.id] 29 (0, 0)))) := Lib.hid ((Keeps.refl _ _).alloc _)
    have HUX : Hid (Uo w1.heap.size (w1.alloc (.cells #[.int .u64 10, .int .u64 f.c.id] 29 (0, 0))) (some ⟨w1.heap.size, 0, none⟩) 2 2 [10, f.c.id]) := Lib.hid (Uo.new rfl rfl (by omega) (Nat.le_refl _))
    have HFR5 : ∀ {a3 : Option Addr}, Near B w1 a a3 → ¬ mine B a3 fb := fun hn h => by
     rcases hn fb h.2 with rfl | ⟨h1, _⟩
     ·exact HFR.out h
     ·have := HL1.out.lt; omega
    have HKd : Hid (Keeps (fun _ => False) w1 (w1.alloc (.cells #[.int .u64 10, .int .u64 f.c.id] 29 (0, 0))).drew) := Lib.hid ((HKX.out).trans (Keeps.refl _ _).drew)
    have HDd := Lib.hid (HD1.out.same HKd.out)
    have HLd := Lib.hid (HKd.out.blk HL1.out (fun h => h))
    have hBd : B ≤ (w1.alloc (.cells #[.int .u64 10, .int .u64 f.c.id] 29 (0, 0))).drew.heap.size := Nat.le_trans hB1 HKd.out.size
    refine wp_region_held (S := fun w' : World => w'.cell? ⟨fb, 8, none⟩ = some (.slice f.a f.n f.cap)) (by kernel_rfl) ?_
    change wpAnyH _ _ _ _ _ _ _ _ (World.drew _)
    have hS : (fun w' : World => w'.cell? ⟨fb, 8, none⟩ = some (.slice f.a f.n f.cap)) (w1.alloc (.cells #[.int .u64 10, .int .u64 f.c.id] 29 (0, 0))).drew := (HLd.out.cell 8)
    refine tH (i := 0) (v := ?_) rfl ?_ hS ?_
    rotate_left
    ·intro wz _; go_simp; try with_reducible rfl
    refine tH (i := 1) (v := ?_) rfl ?_ hS ?_
    rotate_left
    ·intro wz _; go_simp; try with_reducible rfl
    refine tH (i := 2) (v := ?_) rfl ?_ hS ?_
    rotate_left
    ·intro wz _; go_simp; try with_reducible rfl
    refine tH (i := 6) (v := ?_) rfl ?_ hS ?_
    rotate_left
    ·intro wz _; go_simp; try with_reducible rfl
    refine tH (i := 7) (v := ?_) rfl ?_ hS ?_
    rotate_left
    ·intro wz _; go_simp; try with_reducible rfl
    have hka : Keeps (fun _ => False) (w1.alloc (.cells #[.int .u64 10, .int .u64 f.c.id] 29 (0, 0))).drew ((w1.alloc (.cells #[.int .u64 10, .int .u64 f.c.id] 29 (0, 0))).drew.alloc (.cells #[.int .u64 (f.n : Int)] 29 (0, 0))) := (Keeps.refl _ _).alloc _
    have hLd : w1.heap.size ≤ (w1.alloc (.cells #[.int .u64 10, .int .u64 f.c.id] 29 (0, 0))).drew.heap.size := HKd.out.size
    have hxd : Keeps (fun _ => False) (w1.alloc (.cells #[.int .u64 10, .int .u64 f.c.id] 29 (0, 0))) (w1.alloc (.cells #[.int .u64 10, .int .u64 f.c.id] 29 (0, 0))).drew := (Keeps.refl _ _).drew
    refine held_do (i := 3) (.slice (some ⟨(w1.alloc (.cells #[.int .u64 10, .int .u64 f.c.id] 29 (0, 0))).heap.size, 0, none⟩) 1 1) ((w1.alloc (.cells #[.int .u64 10, .int .u64 f.c.id] 29 (0, 0))).drew.alloc (.cells #[.int .u64 (f.n : Int)] 29 (0, 0))) rfl (by kernel_rfl) (by kernel_rfl) ?_ ((hka.blk HLd.out (fun h => h)).cell 8) ?_
    ·go_simp; try with_reducible rfl
    refine held_uo (i := 4) rfl (by kernel_rfl) (by kernel_rfl) (.tmp 132) (.tmp 134) rfl w1.heap.size (some ⟨w1.heap.size, 0, none⟩) 2 2 [10, f.c.id] (by kernel_rfl) ((HUX.out.keep hxd (fun _ _ h => h)).keep hka (fun _ _ h => h)) _ 1 1 [(f.n : Int)] (by kernel_rfl) (Uv.one' (w1.alloc (.cells #[.int .u64 10, .int .u64 f.c.id] 29 (0, 0))).drew _ (f.n : Int) ⟨by omega, by omega⟩) (by omega) (by omega) (Nat.le_trans hLd hka.size) ?_
    intro l5 lc5 w5 hu5 hk5 hn5
    have hk15 : Keeps (fun _ => False) w1 w5 := Keeps.trans2 (HKd.out.trans hka) hk5 (fun i hi h => by have := h.1; omega)
    have hl5 := hk15.blk HL1.out (fun h => h)
    refine ⟨(hl5.cell 8), ?_⟩
    clear hS
    have hS : (fun w' : World => w'.cell? ⟨fb, 8, none⟩ = some (.slice f.a f.n f.cap)) w5 := (hl5.cell 8)
    refine held_call (i := 5) 44 #[.slice a n c, .slice l5 (2 + 1) lc5] rfl (by kernel_rfl) (by kernel_rfl) ?_ ?_
    ·go_simp; try with_reducible rfl
    have hB5 : B ≤ w5.heap.size := Nat.le_trans hB1 hk15.size
    refine (put_any B a n c xs l5 (2 + 1) lc5 ([10, f.c.id] ++ [(f.n : Int)]) w5 (HD1.out.same hk15) (hu5.uv HPI.out) (by simp) HV.out (fun b hb h => by have h1 := (hu5.ge b hb).1; have h2 := HD1.out.2 b h.2; omega) (by omega) (by omega) hB5).mono ?_
    rintro e w3 ⟨hk3, a3, n3, c3, rfl, hs3, hn3⟩
    have hn13 : Near B w1 a a3 := near_to hn3 hk15.size
    have hk13 : Keeps (mine B a) w1 w3 := hk15.to.trans hk3
    have hl3 := hk13.blk HL1.out HFR.out
    have hB3 : B ≤ w3.heap.size := Nat.le_trans hB5 hk3.size
    have hln3 : n3 ≤ n + 40 := by
     have h1 := hs3.1.1
     have h2 := HD1.out.1.1
     have h3 := numsO_len (numsO_yes (xs := xs) HV.out)
     simp only [List.length_append, List.length_cons, List.length_nil] at h1 h3
     omega
    have HY := Lib.hid (HF.out w3 (Keeps.below HB1.out hk13 hB1 (fun k h => h.1))).b
    refine ⟨_, rfl, (hl3.cell 8), ?_⟩
    clear hS
    have hS : (fun w' : World => w'.cell? ⟨fb, 8, none⟩ = some (.slice f.a f.n f.cap)) w3 := (hl3.cell 8)
    refine held_bd (i := 8) rfl (by kernel_rfl) (by kernel_rfl) (.tmp 136) (.tmp 138) rfl B a3 n3 c3 (xs ++ varsE ([10, f.c.id] ++ [(f.n : Int)])) (by kernel_rfl) hs3 f.a f.n f.cap f.c.xs (by kernel_rfl) HY.out (by omega) hB3 ?_
    intro a4 c4 w4 hs4 hk4 hn4
    have hl4 := hk4.blk hl3 (fun h => HFR5 hn13 h)
    refine ⟨(hl4.cell 8), ?_⟩
    have HS9 := Lib.hid hs4
    have HK9 : Hid (Keeps (mine B a) w w4) := Lib.hid (HK0.out.to.trans (Keeps.step hk13 hn13 hk4))
    have HN9 : Hid (Near B w a a4) := Lib.hid (near_to (Near.step hn13 hk13 hn4) HK0.out.size)
    clear hS
    have hS : (fun w' : World => w'.cell? ⟨fb, 8, none⟩ = some (.slice f.a f.n f.cap)) w4 := (hl4.cell 8)
    refine tH (i := 9) (v := ?_) rfl ?_ hS ?_
    rotate_left
    ·intro wz _; go_simp; try with_reducible rfl
    refine tH (i := 10) (v := ?_) rfl ?_ hS ?_
    rotate_left
    ·intro wz _; go_simp; try with_reducible rfl
    refine wpAnyH_done (by kernel_rfl) ?_ _
    clear hS
    go_wp2_with fail
    refine bodyPost_ret (v := .tuple #[.slice a4 (n3 + f.n) c4, .bool true]) (by kernel_rfl) (by kernel_rfl) ?_
    refine ⟨HK9.out, ?_⟩
    rw [HE8.out]
    exact ⟨_, _, _, rfl, HS9.out, HN9.out⟩
   ·have d3 : decide ((4611686018427387903 : Int) < f.c.off + (f.n : Int)) = true := by simp; omega
    have HEN : Hid (endB f.c.off f.n = false) := Lib.hid (by unfold endB; simp; omega)
    clear h1 h2
    go_wp2_with fail
    go_returns
    refine ⟨HK0.out.to, ?_⟩
    rw [encO_no (by rw [HT.out]; decide) (by rw [HPL.out, ← HXL.out, HEN.out]; rfl)]
    rfl
  ·have d2 : decide ((4611686018427387903 : Int) < f.c.off) = true := by simp; omega
   have HEN : Hid (endB f.c.off f.n = false) := Lib.hid (by unfold endB; simp; omega)
   clear h1
   go_wp2_with fail
   go_returns
   refine ⟨HK0.out.to, ?_⟩
   rw [encO_no (by rw [HT.out]; decide) (by rw [HPL.out, ← HXL.out, HEN.out]; rfl)]
   rfl
 ·have d1 : decide ((4611686018427387903 : Int) < f.c.id) = true := by simp; omega
  have HEN : Hid (encO xs f.c = none) := Lib.hid (by
   cases hen : endB f.c.off f.n with
   | false => exact encO_no (by rw [HT.out]; decide) (by rw [HPL.out, ← HXL.out, hen]; rfl)
   | true =>
    by_cases ho : f.c.off = 0
    ·rw [encO_plan (by rw [HT.out]; decide) (l := [strT f.c, f.c.id, (f.c.xs.length : Int)]) (tl := f.c.xs) (by rw [HPL.out, ← HXL.out, hen, if_pos rfl, if_pos ho]), numsO_no (by simp [varsOK]; omega)]; rfl
    ·rw [encO_plan (by rw [HT.out]; decide) (l := [strT f.c, f.c.id, f.c.off, (f.c.xs.length : Int)]) (tl := f.c.xs) (by rw [HPL.out, ← HXL.out, hen, if_pos rfl, if_neg ho]), numsO_no (by simp [varsOK]; omega)]; rfl)
  clear h0
  go_wp2_with fail
  go_returns
  refine ⟨HK0.out.to, ?_⟩
  rw [HEN.out]
  rfl

set_option maxRecDepth 100000 in
set_option maxHeartbeats 3200000 in
theorem one_8_zf (B : Nat) (a : Option Addr) (n c : Nat) (xs : List UInt8) (f : Qf) (w : World) (hd : Sb B w a n c xs) (hf : ∀ w', Below B w w' → Qin w' f) (ht : f.c.t = 8) (hoff : f.c.off = 0) (hfin : f.c.fin = true) (hn : n ≤ 10000000) (hn8 : f.n ≤ 1000000) (hB : B ≤ w.heap.size) :
  Calls Try.prog 25 #[.slice a n c, .agg f.cs] w (OneP B a (encO xs f.c) w) := by
 have HD := Lib.hid hd
 have HF := Lib.hid hf
 have HWF := Lib.hid (hf w (Below.refl _ _)).wf
 have HXL := Lib.hid (hf w (Below.refl _ _)).b.1
 have HK0 : Hid (Keeps (fun _ => False) w (w.alloc (.cells f.cs 32 (0, 0)))) := Lib.hid ((Keeps.refl _ w).alloc _)
 have HL1 := Lib.hid (Blk.new w f.cs 32)
 clear hd hf
 have HO := Lib.hid hoff
 have HFI := Lib.hid hfin
 clear hoff hfin
 have HT := Lib.hid ht
 have e0 : (f.c.t == 0) = false := by simp [ht]
 have e1 : (f.c.t == 1) = false := by simp [ht]
 have e30 : (f.c.t == 30) = false := by simp [ht]
 have e2 : (f.c.t == 2) = false := by simp [ht]
 have e4 : (f.c.t == 4) = false := by simp [ht]
 have e5 : (f.c.t == 5) = false := by simp [ht]
 have e6 : (f.c.t == 6) = false := by simp [ht]
 have e7 : (f.c.t == 7) = false := by simp [ht]
 have e8 : (f.c.t == 8) = true := by simp [ht]
 have HPL := Lib.hid (plan_8 ht)
 clear ht
 unfold Qf.cs at HK0 HL1 ⊢
 have HD1 := Lib.hid (HD.out.same HK0.out)
 go_enter Try.func25, Try.ntmps25
 go_upto_region 1 with fail
 refine wp_named ?_
 intro w1 hw1
 rw [hw1] at HK0 HL1 HD1
 have hs1 : w.heap.size ≤ w1.heap.size := HK0.out.size
 have HFR : Hid (¬ mine B a w.heap.size) := Lib.hid (HD.out.fresh (Nat.le_refl _))
 have HB1 : Hid (Below B w w1) := Lib.hid (Keeps.below (Below.refl B w) HK0.out hB (fun _ h => False.elim h))
 clear hw1
 generalize w.heap.size = fb at *
 have hB1 : B ≤ w1.heap.size := by omega
 have hx8 : IntKind.u64.wrap (f.n : Int) = (f.n : Int) := by rw [IntKind.wrap_u64]; omega
 have q8 : w1.cell? ⟨fb, 8, none⟩ = some (.slice f.a f.n f.cap) := HL1.out.cell 8
 have q0 : w1.cell? ⟨fb, 0, none⟩ = some (.int .u64 f.c.t) := HL1.out.cell 0
 have q1 : w1.cell? ⟨fb, 1, none⟩ = some (.int .u64 f.c.id) := HL1.out.cell 1
 have q2 : w1.cell? ⟨fb, 2, none⟩ = some (.int .u64 f.c.off) := HL1.out.cell 2
 have q3 : w1.cell? ⟨fb, 3, none⟩ = some (.bool f.c.fin) := HL1.out.cell 3
 have dof : decide ((0 : Int) < f.c.off) = false := by have := HWF.out.off.1; have := HO.out; simp; omega
 by_cases h0 : f.c.id ≤ 4611686018427387903
 ·have d1 : decide ((4611686018427387903 : Int) < f.c.id) = false := by simp; omega
  by_cases h1 : f.c.off ≤ 4611686018427387903
  ·have d2 : decide ((4611686018427387903 : Int) < f.c.off) = false := by simp; omega
   have hwr : IntKind.u64.wrap (f.c.off + (f.n : Int)) = f.c.off + (f.n : Int) := by have := HWF.out.off.1; rw [IntKind.wrap_u64]; omega
   by_cases h2 : f.c.off + (f.n : Int) ≤ 4611686018427387903
   ·have d3 : decide ((4611686018427387903 : Int) < f.c.off + (f.n : Int)) = false := by simp; omega
    have HEN : Hid (endB f.c.off f.n = true) := Lib.hid (by unfold endB; simp; omega)
    have hfin : f.c.fin = true := HFI.out
    have hor1 : bits .or .u64 10 4 = 14 := by decide +kernel
    have hor2 : bits .or .u64 14 1 = 15 := by decide +kernel
    have hor3 : bits .or .u64 10 1 = 11 := by decide +kernel
    have HV : Hid (varsOK ([11, f.c.id] ++ [(f.n : Int)]) = true) := Lib.hid (by simp [varsOK]; omega)
    have HE8 : Hid (encO xs f.c = some (xs ++ varsE ([11, f.c.id] ++ [(f.n : Int)]) ++ f.c.xs)) := Lib.hid (by
     rw [encO_plan (by rw [HT.out]; decide) (l := [11, f.c.id] ++ [(f.n : Int)]) (tl := f.c.xs) (by rw [HPL.out, ← HXL.out, HEN.out, if_pos rfl, if_pos HO.out, strT_0 HO.out, HFI.out]; rfl), numsO_yes HV.out, thenO_some])
    have HU0 := Lib.hid (Uo.new (L := w1.heap.size) (w := w1) (cs := #[.int .u64 0, .int .u64 f.c.id]) (k := 2) (vs := [0, f.c.id]) rfl rfl (by omega) (Nat.le_refl _))
    have HPI : Hid (∀ v ∈ [11, f.c.id] ++ [(f.n : Int)], inU v) := Lib.hid (by
     intro v hv
     simp only [List.cons_append, List.nil_append, List.mem_cons, List.not_mem_nil, or_false] at hv
     rcases hv with rfl | rfl | rfl
     ·exact ⟨by omega, by omega⟩
     ·exact HWF.out.id

     ·exact ⟨by omega, by omega⟩)
    have hka0 : Keeps (fun _ => False) w1 (w1.alloc (.cells #[.int .u64 0, .int .u64 f.c.id] 29 (0, 0))) := (Keeps.refl _ _).alloc _
    have HKA := Lib.hid hka0
    have HLA := Lib.hid (hka0.blk HL1.out (fun h => h))
    have s2 : (w1.alloc (.cells #[.int .u64 0, .int .u64 f.c.id] 29 (0, 0))).cell? ⟨fb, 2, none⟩ = some (.int .u64 f.c.off) := HLA.out.cell 2
    have s3 : (w1.alloc (.cells #[.int .u64 0, .int .u64 f.c.id] 29 (0, 0))).cell? ⟨fb, 3, none⟩ = some (.bool f.c.fin) := HLA.out.cell 3
    clear hka0
    go_wp2_with fail
    clear q0 q1 q2 q3 q8 s2 s3 hfin dof d1 d2 d3 hwr
    have HKX : Hid (Keeps (fun _ => False) w1 (w1.alloc (.cells #[.int .u64 11, .int .u64 f.c.id] 29 (0, 0)))) := Lib.hid ((Keeps.refl _ _).alloc _)
    have HUX : Hid (Uo w1.heap.size (w1.alloc (.cells #[.int .u64 11, .int .u64 f.c.id] 29 (0, 0))) (some ⟨w1.heap.size, 0, none⟩) 2 2 [11, f.c.id]) := Lib.hid (Uo.new rfl rfl (by omega) (Nat.le_refl _))
    have HFR5 : ∀ {a3 : Option Addr}, Near B w1 a a3 → ¬ mine B a3 fb := fun hn h => by
     rcases hn fb h.2 with rfl | ⟨h1, _⟩
     ·exact HFR.out h
     ·have := HL1.out.lt; omega
    have HKd : Hid (Keeps (fun _ => False) w1 (w1.alloc (.cells #[.int .u64 11, .int .u64 f.c.id] 29 (0, 0))).drew) := Lib.hid ((HKX.out).trans (Keeps.refl _ _).drew)
    have HDd := Lib.hid (HD1.out.same HKd.out)
    have HLd := Lib.hid (HKd.out.blk HL1.out (fun h => h))
    have hBd : B ≤ (w1.alloc (.cells #[.int .u64 11, .int .u64 f.c.id] 29 (0, 0))).drew.heap.size := Nat.le_trans hB1 HKd.out.size
    refine wp_region_held (S := fun w' : World => w'.cell? ⟨fb, 8, none⟩ = some (.slice f.a f.n f.cap)) (by kernel_rfl) ?_
    change wpAnyH _ _ _ _ _ _ _ _ (World.drew _)
    have hS : (fun w' : World => w'.cell? ⟨fb, 8, none⟩ = some (.slice f.a f.n f.cap)) (w1.alloc (.cells #[.int .u64 11, .int .u64 f.c.id] 29 (0, 0))).drew := (HLd.out.cell 8)
    refine tH (i := 0) (v := ?_) rfl ?_ hS ?_
    rotate_left
    ·intro wz _; go_simp; try with_reducible rfl
    refine tH (i := 1) (v := ?_) rfl ?_ hS ?_
    rotate_left
    ·intro wz _; go_simp; try with_reducible rfl
    refine tH (i := 2) (v := ?_) rfl ?_ hS ?_
    rotate_left
    ·intro wz _; go_simp; try with_reducible rfl
    refine tH (i := 6) (v := ?_) rfl ?_ hS ?_
    rotate_left
    ·intro wz _; go_simp; try with_reducible rfl
    refine tH (i := 7) (v := ?_) rfl ?_ hS ?_
    rotate_left
    ·intro wz _; go_simp; try with_reducible rfl
    have hka : Keeps (fun _ => False) (w1.alloc (.cells #[.int .u64 11, .int .u64 f.c.id] 29 (0, 0))).drew ((w1.alloc (.cells #[.int .u64 11, .int .u64 f.c.id] 29 (0, 0))).drew.alloc (.cells #[.int .u64 (f.n : Int)] 29 (0, 0))) := (Keeps.refl _ _).alloc _
    have hLd : w1.heap.size ≤ (w1.alloc (.cells #[.int .u64 11, .int .u64 f.c.id] 29 (0, 0))).drew.heap.size := HKd.out.size
    have hxd : Keeps (fun _ => False) (w1.alloc (.cells #[.int .u64 11, .int .u64 f.c.id] 29 (0, 0))) (w1.alloc (.cells #[.int .u64 11, .int .u64 f.c.id] 29 (0, 0))).drew := (Keeps.refl _ _).drew
    refine held_do (i := 3) (.slice (some ⟨(w1.alloc (.cells #[.int .u64 11, .int .u64 f.c.id] 29 (0, 0))).heap.size, 0, none⟩) 1 1) ((w1.alloc (.cells #[.int .u64 11, .int .u64 f.c.id] 29 (0, 0))).drew.alloc (.cells #[.int .u64 (f.n : Int)] 29 (0, 0))) rfl (by kernel_rfl) (by kernel_rfl) ?_ ((hka.blk HLd.out (fun h => h)).cell 8) ?_
    ·go_simp; try with_reducible rfl
    refine held_uo (i := 4) rfl (by kernel_rfl) (by kernel_rfl) (.tmp 132) (.tmp 134) rfl w1.heap.size (some ⟨w1.heap.size, 0, none⟩) 2 2 [11, f.c.id] (by kernel_rfl) ((HUX.out.keep hxd (fun _ _ h => h)).keep hka (fun _ _ h => h)) _ 1 1 [(f.n : Int)] (by kernel_rfl) (Uv.one' (w1.alloc (.cells #[.int .u64 11, .int .u64 f.c.id] 29 (0, 0))).drew _ (f.n : Int) ⟨by omega, by omega⟩) (by omega) (by omega) (Nat.le_trans hLd hka.size) ?_
    intro l5 lc5 w5 hu5 hk5 hn5
    have hk15 : Keeps (fun _ => False) w1 w5 := Keeps.trans2 (HKd.out.trans hka) hk5 (fun i hi h => by have := h.1; omega)
    have hl5 := hk15.blk HL1.out (fun h => h)
    refine ⟨(hl5.cell 8), ?_⟩
    clear hS
    have hS : (fun w' : World => w'.cell? ⟨fb, 8, none⟩ = some (.slice f.a f.n f.cap)) w5 := (hl5.cell 8)
    refine held_call (i := 5) 44 #[.slice a n c, .slice l5 (2 + 1) lc5] rfl (by kernel_rfl) (by kernel_rfl) ?_ ?_
    ·go_simp; try with_reducible rfl
    have hB5 : B ≤ w5.heap.size := Nat.le_trans hB1 hk15.size
    refine (put_any B a n c xs l5 (2 + 1) lc5 ([11, f.c.id] ++ [(f.n : Int)]) w5 (HD1.out.same hk15) (hu5.uv HPI.out) (by simp) HV.out (fun b hb h => by have h1 := (hu5.ge b hb).1; have h2 := HD1.out.2 b h.2; omega) (by omega) (by omega) hB5).mono ?_
    rintro e w3 ⟨hk3, a3, n3, c3, rfl, hs3, hn3⟩
    have hn13 : Near B w1 a a3 := near_to hn3 hk15.size
    have hk13 : Keeps (mine B a) w1 w3 := hk15.to.trans hk3
    have hl3 := hk13.blk HL1.out HFR.out
    have hB3 : B ≤ w3.heap.size := Nat.le_trans hB5 hk3.size
    have hln3 : n3 ≤ n + 40 := by
     have h1 := hs3.1.1
     have h2 := HD1.out.1.1
     have h3 := numsO_len (numsO_yes (xs := xs) HV.out)
     simp only [List.length_append, List.length_cons, List.length_nil] at h1 h3
     omega
    have HY := Lib.hid (HF.out w3 (Keeps.below HB1.out hk13 hB1 (fun k h => h.1))).b
    refine ⟨_, rfl, (hl3.cell 8), ?_⟩
    clear hS
    have hS : (fun w' : World => w'.cell? ⟨fb, 8, none⟩ = some (.slice f.a f.n f.cap)) w3 := (hl3.cell 8)
    refine held_bd (i := 8) rfl (by kernel_rfl) (by kernel_rfl) (.tmp 136) (.tmp 138) rfl B a3 n3 c3 (xs ++ varsE ([11, f.c.id] ++ [(f.n : Int)])) (by kernel_rfl) hs3 f.a f.n f.cap f.c.xs (by kernel_rfl) HY.out (by omega) hB3 ?_
    intro a4 c4 w4 hs4 hk4 hn4
    have hl4 := hk4.blk hl3 (fun h => HFR5 hn13 h)
    refine ⟨(hl4.cell 8), ?_⟩
    have HS9 := Lib.hid hs4
    have HK9 : Hid (Keeps (mine B a) w w4) := Lib.hid (HK0.out.to.trans (Keeps.step hk13 hn13 hk4))
    have HN9 : Hid (Near B w a a4) := Lib.hid (near_to (Near.step hn13 hk13 hn4) HK0.out.size)
    clear hS
    have hS : (fun w' : World => w'.cell? ⟨fb, 8, none⟩ = some (.slice f.a f.n f.cap)) w4 := (hl4.cell 8)
    refine tH (i := 9) (v := ?_) rfl ?_ hS ?_
    rotate_left
    ·intro wz _; go_simp; try with_reducible rfl
    refine tH (i := 10) (v := ?_) rfl ?_ hS ?_
    rotate_left
    ·intro wz _; go_simp; try with_reducible rfl
    refine wpAnyH_done (by kernel_rfl) ?_ _
    clear hS
    go_wp2_with fail
    refine bodyPost_ret (v := .tuple #[.slice a4 (n3 + f.n) c4, .bool true]) (by kernel_rfl) (by kernel_rfl) ?_
    refine ⟨HK9.out, ?_⟩
    rw [HE8.out]
    exact ⟨_, _, _, rfl, HS9.out, HN9.out⟩
   ·have d3 : decide ((4611686018427387903 : Int) < f.c.off + (f.n : Int)) = true := by simp; omega
    have HEN : Hid (endB f.c.off f.n = false) := Lib.hid (by unfold endB; simp; omega)
    clear h1 h2
    go_wp2_with fail
    go_returns
    refine ⟨HK0.out.to, ?_⟩
    rw [encO_no (by rw [HT.out]; decide) (by rw [HPL.out, ← HXL.out, HEN.out]; rfl)]
    rfl
  ·have d2 : decide ((4611686018427387903 : Int) < f.c.off) = true := by simp; omega
   have HEN : Hid (endB f.c.off f.n = false) := Lib.hid (by unfold endB; simp; omega)
   clear h1
   go_wp2_with fail
   go_returns
   refine ⟨HK0.out.to, ?_⟩
   rw [encO_no (by rw [HT.out]; decide) (by rw [HPL.out, ← HXL.out, HEN.out]; rfl)]
   rfl
 ·have d1 : decide ((4611686018427387903 : Int) < f.c.id) = true := by simp; omega
  have HEN : Hid (encO xs f.c = none) := Lib.hid (by
   cases hen : endB f.c.off f.n with
   | false => exact encO_no (by rw [HT.out]; decide) (by rw [HPL.out, ← HXL.out, hen]; rfl)
   | true =>
    by_cases ho : f.c.off = 0
    ·rw [encO_plan (by rw [HT.out]; decide) (l := [strT f.c, f.c.id, (f.c.xs.length : Int)]) (tl := f.c.xs) (by rw [HPL.out, ← HXL.out, hen, if_pos rfl, if_pos ho]), numsO_no (by simp [varsOK]; omega)]; rfl
    ·rw [encO_plan (by rw [HT.out]; decide) (l := [strT f.c, f.c.id, f.c.off, (f.c.xs.length : Int)]) (tl := f.c.xs) (by rw [HPL.out, ← HXL.out, hen, if_pos rfl, if_neg ho]), numsO_no (by simp [varsOK]; omega)]; rfl)
  clear h0
  go_wp2_with fail
  go_returns
  refine ⟨HK0.out.to, ?_⟩
  rw [HEN.out]
  rfl

set_option maxRecDepth 100000 in
set_option maxHeartbeats 3200000 in
theorem one_8_o (B : Nat) (a : Option Addr) (n c : Nat) (xs : List UInt8) (f : Qf) (w : World) (hd : Sb B w a n c xs) (hf : ∀ w', Below B w w' → Qin w' f) (ht : f.c.t = 8) (hoff : f.c.off ≠ 0) (hfin : f.c.fin = false) (hn : n ≤ 10000000) (hn8 : f.n ≤ 1000000) (hB : B ≤ w.heap.size) :
  Calls Try.prog 25 #[.slice a n c, .agg f.cs] w (OneP B a (encO xs f.c) w) := by
 have HD := Lib.hid hd
 have HF := Lib.hid hf
 have HWF := Lib.hid (hf w (Below.refl _ _)).wf
 have HXL := Lib.hid (hf w (Below.refl _ _)).b.1
 have HK0 : Hid (Keeps (fun _ => False) w (w.alloc (.cells f.cs 32 (0, 0)))) := Lib.hid ((Keeps.refl _ w).alloc _)
 have HL1 := Lib.hid (Blk.new w f.cs 32)
 clear hd hf
 have HO := Lib.hid hoff
 have HFI := Lib.hid hfin
 clear hoff hfin
 have HT := Lib.hid ht
 have e0 : (f.c.t == 0) = false := by simp [ht]
 have e1 : (f.c.t == 1) = false := by simp [ht]
 have e30 : (f.c.t == 30) = false := by simp [ht]
 have e2 : (f.c.t == 2) = false := by simp [ht]
 have e4 : (f.c.t == 4) = false := by simp [ht]
 have e5 : (f.c.t == 5) = false := by simp [ht]
 have e6 : (f.c.t == 6) = false := by simp [ht]
 have e7 : (f.c.t == 7) = false := by simp [ht]
 have e8 : (f.c.t == 8) = true := by simp [ht]
 have HPL := Lib.hid (plan_8 ht)
 clear ht
 unfold Qf.cs at HK0 HL1 ⊢
 have HD1 := Lib.hid (HD.out.same HK0.out)
 go_enter Try.func25, Try.ntmps25
 go_upto_region 1 with fail
 refine wp_named ?_
 intro w1 hw1
 rw [hw1] at HK0 HL1 HD1
 have hs1 : w.heap.size ≤ w1.heap.size := HK0.out.size
 have HFR : Hid (¬ mine B a w.heap.size) := Lib.hid (HD.out.fresh (Nat.le_refl _))
 have HB1 : Hid (Below B w w1) := Lib.hid (Keeps.below (Below.refl B w) HK0.out hB (fun _ h => False.elim h))
 clear hw1
 generalize w.heap.size = fb at *
 have hB1 : B ≤ w1.heap.size := by omega
 have hx8 : IntKind.u64.wrap (f.n : Int) = (f.n : Int) := by rw [IntKind.wrap_u64]; omega
 have q8 : w1.cell? ⟨fb, 8, none⟩ = some (.slice f.a f.n f.cap) := HL1.out.cell 8
 have q0 : w1.cell? ⟨fb, 0, none⟩ = some (.int .u64 f.c.t) := HL1.out.cell 0
 have q1 : w1.cell? ⟨fb, 1, none⟩ = some (.int .u64 f.c.id) := HL1.out.cell 1
 have q2 : w1.cell? ⟨fb, 2, none⟩ = some (.int .u64 f.c.off) := HL1.out.cell 2
 have q3 : w1.cell? ⟨fb, 3, none⟩ = some (.bool f.c.fin) := HL1.out.cell 3
 have dof : decide ((0 : Int) < f.c.off) = true := by have := HWF.out.off.1; have := HO.out; simp; omega
 by_cases h0 : f.c.id ≤ 4611686018427387903
 ·have d1 : decide ((4611686018427387903 : Int) < f.c.id) = false := by simp; omega
  by_cases h1 : f.c.off ≤ 4611686018427387903
  ·have d2 : decide ((4611686018427387903 : Int) < f.c.off) = false := by simp; omega
   have hwr : IntKind.u64.wrap (f.c.off + (f.n : Int)) = f.c.off + (f.n : Int) := by have := HWF.out.off.1; rw [IntKind.wrap_u64]; omega
   by_cases h2 : f.c.off + (f.n : Int) ≤ 4611686018427387903
   ·have d3 : decide ((4611686018427387903 : Int) < f.c.off + (f.n : Int)) = false := by simp; omega
    have HEN : Hid (endB f.c.off f.n = true) := Lib.hid (by unfold endB; simp; omega)
    have hfin : f.c.fin = false := HFI.out
    have hor1 : bits .or .u64 10 4 = 14 := by decide +kernel
    have hor2 : bits .or .u64 14 1 = 15 := by decide +kernel
    have hor3 : bits .or .u64 10 1 = 11 := by decide +kernel
    have HV : Hid (varsOK ([14, f.c.id, f.c.off] ++ [(f.n : Int)]) = true) := Lib.hid (by simp [varsOK]; omega)
    have HE8 : Hid (encO xs f.c = some (xs ++ varsE ([14, f.c.id, f.c.off] ++ [(f.n : Int)]) ++ f.c.xs)) := Lib.hid (by
     rw [encO_plan (by rw [HT.out]; decide) (l := [14, f.c.id, f.c.off] ++ [(f.n : Int)]) (tl := f.c.xs) (by rw [HPL.out, ← HXL.out, HEN.out, if_pos rfl, if_neg HO.out, strT_1 HO.out, HFI.out]; rfl), numsO_yes HV.out, thenO_some])
    have HU0 := Lib.hid (Uo.new (L := w1.heap.size) (w := w1) (cs := #[.int .u64 0, .int .u64 f.c.id]) (k := 2) (vs := [0, f.c.id]) rfl rfl (by omega) (Nat.le_refl _))
    have HPI : Hid (∀ v ∈ [14, f.c.id, f.c.off] ++ [(f.n : Int)], inU v) := Lib.hid (by
     intro v hv
     simp only [List.cons_append, List.nil_append, List.mem_cons, List.not_mem_nil, or_false] at hv
     rcases hv with rfl | rfl | rfl | rfl
     ·exact ⟨by omega, by omega⟩
     ·exact HWF.out.id
     ·exact HWF.out.off
     ·exact ⟨by omega, by omega⟩)
    have hka0 : Keeps (fun _ => False) w1 (w1.alloc (.cells #[.int .u64 0, .int .u64 f.c.id] 29 (0, 0))) := (Keeps.refl _ _).alloc _
    have HKA := Lib.hid hka0
    have HLA := Lib.hid (hka0.blk HL1.out (fun h => h))
    have s2 : (w1.alloc (.cells #[.int .u64 0, .int .u64 f.c.id] 29 (0, 0))).cell? ⟨fb, 2, none⟩ = some (.int .u64 f.c.off) := HLA.out.cell 2
    have s3 : (w1.alloc (.cells #[.int .u64 0, .int .u64 f.c.id] 29 (0, 0))).cell? ⟨fb, 3, none⟩ = some (.bool f.c.fin) := HLA.out.cell 3
    clear hka0
    go_wp2_with (at_builtin; refine halt ?_)
    have hkb : Keeps (fun _ => False) (w1.alloc (.cells #[.int .u64 0, .int .u64 f.c.id] 29 (0, 0))) ((w1.alloc (.cells #[.int .u64 0, .int .u64 f.c.id] 29 (0, 0))).alloc (.cells #[.int .u64 f.c.off] 29 (0, 0))) := (Keeps.refl _ _).alloc _
    refine Halted.go (wpList_uo _ rfl _ _ rfl w1.heap.size (some ⟨w1.heap.size, 0, none⟩) 2 2 [0, f.c.id] rfl (HU0.out.keep hkb (fun _ _ h => h)) _ 1 1 [f.c.off] rfl (by have h := Uv.one' (w1.alloc (.cells #[.int .u64 0, .int .u64 f.c.id] 29 (0, 0))) 29 f.c.off HWF.out.off; rwa [World.size_alloc] at h) (by omega) (by omega) (by simp; omega) ?_)
    intro la lc w4 hu4 hk4 hn4
    have HK4 : Hid (Keeps (fun _ => False) w1 w4) := Lib.hid (Keeps.trans2 (HKA.out.trans hkb) hk4 (fun i hi h => by have := h.1; omega))
    have hu4' : Uo w1.heap.size w4 la 3 lc [0, f.c.id, f.c.off] := hu4
    obtain ⟨g, rfl, hg, hlt, hfr⟩ := hu4'.row (by omega)
    have HU4 := Lib.hid hu4'
    have HL4 := Lib.hid (HK4.out.blk HL1.out (fun h => h))
    have y0 : w4.frozen? ⟨g, 0, none⟩ = false := hfr 0
    have d0 : w4.cell? ⟨g, 0, none⟩ = some (.int .u64 0) := by
     obtain ⟨b', off', e, _, hc⟩ := (hu4'.uv (fun v hv => by
      simp only [List.mem_cons, List.not_mem_nil, or_false] at hv
      rcases hv with rfl | rfl | rfl
      ·exact ⟨by omega, by omega⟩
      ·exact HWF.out.id
      ·exact HWF.out.off)).get (by omega)
     cases e
     exact hc 0 (by simp)
    have r3 : w4.cell? ⟨fb, 3, none⟩ = some (.bool f.c.fin) := HL4.out.cell 3
    have hcap4 : 3 ≤ lc := (hu4'.uv (fun v hv => by
      simp only [List.mem_cons, List.not_mem_nil, or_false] at hv
      rcases hv with rfl | rfl | rfl
      ·exact ⟨by omega, by omega⟩
      ·exact HWF.out.id
      ·exact HWF.out.off)).2.1.le
    clear hu4 hk4 hn4 hkb hfr hu4'
    go_wp2_with fail
    clear q0 q1 q2 q3 q8 s2 s3 hfin dof d1 d2 d3 hwr y0 d0 r3
    have HKX : Hid (Keeps (fun _ => False) w1 (w4.setCell ⟨g, 0, none⟩ (.int .u64 14))) := Lib.hid (Keeps.setCell (p := ⟨g, 0, none⟩) HK4.out (fun h => by have : g < w1.heap.size := h; omega) _)
    have HUX : Hid (Uo w1.heap.size (w4.setCell ⟨g, 0, none⟩ (.int .u64 14)) (some ⟨g, 0, none⟩) 3 lc [14, f.c.id, f.c.off]) := Lib.hid (HU4.out.set 0 14)
    have HFR5 : ∀ {a3 : Option Addr}, Near B w1 a a3 → ¬ mine B a3 fb := fun hn h => by
     rcases hn fb h.2 with rfl | ⟨h1, _⟩
     ·exact HFR.out h
     ·have := HL1.out.lt; omega
    have HKd : Hid (Keeps (fun _ => False) w1 (w4.setCell ⟨g, 0, none⟩ (.int .u64 14)).drew) := Lib.hid ((HKX.out).trans (Keeps.refl _ _).drew)
    have HDd := Lib.hid (HD1.out.same HKd.out)
    have HLd := Lib.hid (HKd.out.blk HL1.out (fun h => h))
    have hBd : B ≤ (w4.setCell ⟨g, 0, none⟩ (.int .u64 14)).drew.heap.size := Nat.le_trans hB1 HKd.out.size
    refine wp_region_held (S := fun w' : World => w'.cell? ⟨fb, 8, none⟩ = some (.slice f.a f.n f.cap)) (by kernel_rfl) ?_
    change wpAnyH _ _ _ _ _ _ _ _ (World.drew _)
    have hS : (fun w' : World => w'.cell? ⟨fb, 8, none⟩ = some (.slice f.a f.n f.cap)) (w4.setCell ⟨g, 0, none⟩ (.int .u64 14)).drew := (HLd.out.cell 8)
    refine tH (i := 0) (v := ?_) rfl ?_ hS ?_
    rotate_left
    ·intro wz _; go_simp; try with_reducible rfl
    refine tH (i := 1) (v := ?_) rfl ?_ hS ?_
    rotate_left
    ·intro wz _; go_simp; try with_reducible rfl
    refine tH (i := 2) (v := ?_) rfl ?_ hS ?_
    rotate_left
    ·intro wz _; go_simp; try with_reducible rfl
    refine tH (i := 6) (v := ?_) rfl ?_ hS ?_
    rotate_left
    ·intro wz _; go_simp; try with_reducible rfl
    refine tH (i := 7) (v := ?_) rfl ?_ hS ?_
    rotate_left
    ·intro wz _; go_simp; try with_reducible rfl
    have hka : Keeps (fun _ => False) (w4.setCell ⟨g, 0, none⟩ (.int .u64 14)).drew ((w4.setCell ⟨g, 0, none⟩ (.int .u64 14)).drew.alloc (.cells #[.int .u64 (f.n : Int)] 29 (0, 0))) := (Keeps.refl _ _).alloc _
    have hLd : w1.heap.size ≤ (w4.setCell ⟨g, 0, none⟩ (.int .u64 14)).drew.heap.size := HKd.out.size
    have hxd : Keeps (fun _ => False) (w4.setCell ⟨g, 0, none⟩ (.int .u64 14)) (w4.setCell ⟨g, 0, none⟩ (.int .u64 14)).drew := (Keeps.refl _ _).drew
    refine held_do (i := 3) (.slice (some ⟨(w4.setCell ⟨g, 0, none⟩ (.int .u64 14)).heap.size, 0, none⟩) 1 1) ((w4.setCell ⟨g, 0, none⟩ (.int .u64 14)).drew.alloc (.cells #[.int .u64 (f.n : Int)] 29 (0, 0))) rfl (by kernel_rfl) (by kernel_rfl) ?_ ((hka.blk HLd.out (fun h => h)).cell 8) ?_
    ·go_simp; try with_reducible rfl
    refine held_uo (i := 4) rfl (by kernel_rfl) (by kernel_rfl) (.tmp 132) (.tmp 134) rfl w1.heap.size (some ⟨g, 0, none⟩) 3 lc [14, f.c.id, f.c.off] (by kernel_rfl) ((HUX.out.keep hxd (fun _ _ h => h)).keep hka (fun _ _ h => h)) _ 1 1 [(f.n : Int)] (by kernel_rfl) (Uv.one' (w4.setCell ⟨g, 0, none⟩ (.int .u64 14)).drew _ (f.n : Int) ⟨by omega, by omega⟩) (by omega) (by omega) (Nat.le_trans hLd hka.size) ?_
    intro l5 lc5 w5 hu5 hk5 hn5
    have hk15 : Keeps (fun _ => False) w1 w5 := Keeps.trans2 (HKd.out.trans hka) hk5 (fun i hi h => by have := h.1; omega)
    have hl5 := hk15.blk HL1.out (fun h => h)
    refine ⟨(hl5.cell 8), ?_⟩
    clear hS
    have hS : (fun w' : World => w'.cell? ⟨fb, 8, none⟩ = some (.slice f.a f.n f.cap)) w5 := (hl5.cell 8)
    refine held_call (i := 5) 44 #[.slice a n c, .slice l5 (3 + 1) lc5] rfl (by kernel_rfl) (by kernel_rfl) ?_ ?_
    ·go_simp; try with_reducible rfl
    have hB5 : B ≤ w5.heap.size := Nat.le_trans hB1 hk15.size
    refine (put_any B a n c xs l5 (3 + 1) lc5 ([14, f.c.id, f.c.off] ++ [(f.n : Int)]) w5 (HD1.out.same hk15) (hu5.uv HPI.out) (by simp) HV.out (fun b hb h => by have h1 := (hu5.ge b hb).1; have h2 := HD1.out.2 b h.2; omega) (by omega) (by omega) hB5).mono ?_
    rintro e w3 ⟨hk3, a3, n3, c3, rfl, hs3, hn3⟩
    have hn13 : Near B w1 a a3 := near_to hn3 hk15.size
    have hk13 : Keeps (mine B a) w1 w3 := hk15.to.trans hk3
    have hl3 := hk13.blk HL1.out HFR.out
    have hB3 : B ≤ w3.heap.size := Nat.le_trans hB5 hk3.size
    have hln3 : n3 ≤ n + 40 := by
     have h1 := hs3.1.1
     have h2 := HD1.out.1.1
     have h3 := numsO_len (numsO_yes (xs := xs) HV.out)
     simp only [List.length_append, List.length_cons, List.length_nil] at h1 h3
     omega
    have HY := Lib.hid (HF.out w3 (Keeps.below HB1.out hk13 hB1 (fun k h => h.1))).b
    refine ⟨_, rfl, (hl3.cell 8), ?_⟩
    clear hS
    have hS : (fun w' : World => w'.cell? ⟨fb, 8, none⟩ = some (.slice f.a f.n f.cap)) w3 := (hl3.cell 8)
    refine held_bd (i := 8) rfl (by kernel_rfl) (by kernel_rfl) (.tmp 136) (.tmp 138) rfl B a3 n3 c3 (xs ++ varsE ([14, f.c.id, f.c.off] ++ [(f.n : Int)])) (by kernel_rfl) hs3 f.a f.n f.cap f.c.xs (by kernel_rfl) HY.out (by omega) hB3 ?_
    intro a4 c4 w4 hs4 hk4 hn4
    have hl4 := hk4.blk hl3 (fun h => HFR5 hn13 h)
    refine ⟨(hl4.cell 8), ?_⟩
    have HS9 := Lib.hid hs4
    have HK9 : Hid (Keeps (mine B a) w w4) := Lib.hid (HK0.out.to.trans (Keeps.step hk13 hn13 hk4))
    have HN9 : Hid (Near B w a a4) := Lib.hid (near_to (Near.step hn13 hk13 hn4) HK0.out.size)
    clear hS
    have hS : (fun w' : World => w'.cell? ⟨fb, 8, none⟩ = some (.slice f.a f.n f.cap)) w4 := (hl4.cell 8)
    refine tH (i := 9) (v := ?_) rfl ?_ hS ?_
    rotate_left
    ·intro wz _; go_simp; try with_reducible rfl
    refine tH (i := 10) (v := ?_) rfl ?_ hS ?_
    rotate_left
    ·intro wz _; go_simp; try with_reducible rfl
    refine wpAnyH_done (by kernel_rfl) ?_ _
    clear hS
    go_wp2_with fail
    refine bodyPost_ret (v := .tuple #[.slice a4 (n3 + f.n) c4, .bool true]) (by kernel_rfl) (by kernel_rfl) ?_
    refine ⟨HK9.out, ?_⟩
    rw [HE8.out]
    exact ⟨_, _, _, rfl, HS9.out, HN9.out⟩
   ·have d3 : decide ((4611686018427387903 : Int) < f.c.off + (f.n : Int)) = true := by simp; omega
    have HEN : Hid (endB f.c.off f.n = false) := Lib.hid (by unfold endB; simp; omega)
    clear h1 h2
    go_wp2_with fail
    go_returns
    refine ⟨HK0.out.to, ?_⟩
    rw [encO_no (by rw [HT.out]; decide) (by rw [HPL.out, ← HXL.out, HEN.out]; rfl)]
    rfl
  ·have d2 : decide ((4611686018427387903 : Int) < f.c.off) = true := by simp; omega
   have HEN : Hid (endB f.c.off f.n = false) := Lib.hid (by unfold endB; simp; omega)
   clear h1
   go_wp2_with fail
   go_returns
   refine ⟨HK0.out.to, ?_⟩
   rw [encO_no (by rw [HT.out]; decide) (by rw [HPL.out, ← HXL.out, HEN.out]; rfl)]
   rfl
 ·have d1 : decide ((4611686018427387903 : Int) < f.c.id) = true := by simp; omega
  have HEN : Hid (encO xs f.c = none) := Lib.hid (by
   cases hen : endB f.c.off f.n with
   | false => exact encO_no (by rw [HT.out]; decide) (by rw [HPL.out, ← HXL.out, hen]; rfl)
   | true =>
    by_cases ho : f.c.off = 0
    ·rw [encO_plan (by rw [HT.out]; decide) (l := [strT f.c, f.c.id, (f.c.xs.length : Int)]) (tl := f.c.xs) (by rw [HPL.out, ← HXL.out, hen, if_pos rfl, if_pos ho]), numsO_no (by simp [varsOK]; omega)]; rfl
    ·rw [encO_plan (by rw [HT.out]; decide) (l := [strT f.c, f.c.id, f.c.off, (f.c.xs.length : Int)]) (tl := f.c.xs) (by rw [HPL.out, ← HXL.out, hen, if_pos rfl, if_neg ho]), numsO_no (by simp [varsOK]; omega)]; rfl)
  clear h0
  go_wp2_with fail
  go_returns
  refine ⟨HK0.out.to, ?_⟩
  rw [HEN.out]
  rfl

set_option maxRecDepth 100000 in
set_option maxHeartbeats 3200000 in
theorem one_8_of (B : Nat) (a : Option Addr) (n c : Nat) (xs : List UInt8) (f : Qf) (w : World) (hd : Sb B w a n c xs) (hf : ∀ w', Below B w w' → Qin w' f) (ht : f.c.t = 8) (hoff : f.c.off ≠ 0) (hfin : f.c.fin = true) (hn : n ≤ 10000000) (hn8 : f.n ≤ 1000000) (hB : B ≤ w.heap.size) :
  Calls Try.prog 25 #[.slice a n c, .agg f.cs] w (OneP B a (encO xs f.c) w) := by
 have HD := Lib.hid hd
 have HF := Lib.hid hf
 have HWF := Lib.hid (hf w (Below.refl _ _)).wf
 have HXL := Lib.hid (hf w (Below.refl _ _)).b.1
 have HK0 : Hid (Keeps (fun _ => False) w (w.alloc (.cells f.cs 32 (0, 0)))) := Lib.hid ((Keeps.refl _ w).alloc _)
 have HL1 := Lib.hid (Blk.new w f.cs 32)
 clear hd hf
 have HO := Lib.hid hoff
 have HFI := Lib.hid hfin
 clear hoff hfin
 have HT := Lib.hid ht
 have e0 : (f.c.t == 0) = false := by simp [ht]
 have e1 : (f.c.t == 1) = false := by simp [ht]
 have e30 : (f.c.t == 30) = false := by simp [ht]
 have e2 : (f.c.t == 2) = false := by simp [ht]
 have e4 : (f.c.t == 4) = false := by simp [ht]
 have e5 : (f.c.t == 5) = false := by simp [ht]
 have e6 : (f.c.t == 6) = false := by simp [ht]
 have e7 : (f.c.t == 7) = false := by simp [ht]
 have e8 : (f.c.t == 8) = true := by simp [ht]
 have HPL := Lib.hid (plan_8 ht)
 clear ht
 unfold Qf.cs at HK0 HL1 ⊢
 have HD1 := Lib.hid (HD.out.same HK0.out)
 go_enter Try.func25, Try.ntmps25
 go_upto_region 1 with fail
 refine wp_named ?_
 intro w1 hw1
 rw [hw1] at HK0 HL1 HD1
 have hs1 : w.heap.size ≤ w1.heap.size := HK0.out.size
 have HFR : Hid (¬ mine B a w.heap.size) := Lib.hid (HD.out.fresh (Nat.le_refl _))
 have HB1 : Hid (Below B w w1) := Lib.hid (Keeps.below (Below.refl B w) HK0.out hB (fun _ h => False.elim h))
 clear hw1
 generalize w.heap.size = fb at *
 have hB1 : B ≤ w1.heap.size := by omega
 have hx8 : IntKind.u64.wrap (f.n : Int) = (f.n : Int) := by rw [IntKind.wrap_u64]; omega
 have q8 : w1.cell? ⟨fb, 8, none⟩ = some (.slice f.a f.n f.cap) := HL1.out.cell 8
 have q0 : w1.cell? ⟨fb, 0, none⟩ = some (.int .u64 f.c.t) := HL1.out.cell 0
 have q1 : w1.cell? ⟨fb, 1, none⟩ = some (.int .u64 f.c.id) := HL1.out.cell 1
 have q2 : w1.cell? ⟨fb, 2, none⟩ = some (.int .u64 f.c.off) := HL1.out.cell 2
 have q3 : w1.cell? ⟨fb, 3, none⟩ = some (.bool f.c.fin) := HL1.out.cell 3
 have dof : decide ((0 : Int) < f.c.off) = true := by have := HWF.out.off.1; have := HO.out; simp; omega
 by_cases h0 : f.c.id ≤ 4611686018427387903
 ·have d1 : decide ((4611686018427387903 : Int) < f.c.id) = false := by simp; omega
  by_cases h1 : f.c.off ≤ 4611686018427387903
  ·have d2 : decide ((4611686018427387903 : Int) < f.c.off) = false := by simp; omega
   have hwr : IntKind.u64.wrap (f.c.off + (f.n : Int)) = f.c.off + (f.n : Int) := by have := HWF.out.off.1; rw [IntKind.wrap_u64]; omega
   by_cases h2 : f.c.off + (f.n : Int) ≤ 4611686018427387903
   ·have d3 : decide ((4611686018427387903 : Int) < f.c.off + (f.n : Int)) = false := by simp; omega
    have HEN : Hid (endB f.c.off f.n = true) := Lib.hid (by unfold endB; simp; omega)
    have hfin : f.c.fin = true := HFI.out
    have hor1 : bits .or .u64 10 4 = 14 := by decide +kernel
    have hor2 : bits .or .u64 14 1 = 15 := by decide +kernel
    have hor3 : bits .or .u64 10 1 = 11 := by decide +kernel
    have HV : Hid (varsOK ([15, f.c.id, f.c.off] ++ [(f.n : Int)]) = true) := Lib.hid (by simp [varsOK]; omega)
    have HE8 : Hid (encO xs f.c = some (xs ++ varsE ([15, f.c.id, f.c.off] ++ [(f.n : Int)]) ++ f.c.xs)) := Lib.hid (by
     rw [encO_plan (by rw [HT.out]; decide) (l := [15, f.c.id, f.c.off] ++ [(f.n : Int)]) (tl := f.c.xs) (by rw [HPL.out, ← HXL.out, HEN.out, if_pos rfl, if_neg HO.out, strT_1 HO.out, HFI.out]; rfl), numsO_yes HV.out, thenO_some])
    have HU0 := Lib.hid (Uo.new (L := w1.heap.size) (w := w1) (cs := #[.int .u64 0, .int .u64 f.c.id]) (k := 2) (vs := [0, f.c.id]) rfl rfl (by omega) (Nat.le_refl _))
    have HPI : Hid (∀ v ∈ [15, f.c.id, f.c.off] ++ [(f.n : Int)], inU v) := Lib.hid (by
     intro v hv
     simp only [List.cons_append, List.nil_append, List.mem_cons, List.not_mem_nil, or_false] at hv
     rcases hv with rfl | rfl | rfl | rfl
     ·exact ⟨by omega, by omega⟩
     ·exact HWF.out.id
     ·exact HWF.out.off
     ·exact ⟨by omega, by omega⟩)
    have hka0 : Keeps (fun _ => False) w1 (w1.alloc (.cells #[.int .u64 0, .int .u64 f.c.id] 29 (0, 0))) := (Keeps.refl _ _).alloc _
    have HKA := Lib.hid hka0
    have HLA := Lib.hid (hka0.blk HL1.out (fun h => h))
    have s2 : (w1.alloc (.cells #[.int .u64 0, .int .u64 f.c.id] 29 (0, 0))).cell? ⟨fb, 2, none⟩ = some (.int .u64 f.c.off) := HLA.out.cell 2
    have s3 : (w1.alloc (.cells #[.int .u64 0, .int .u64 f.c.id] 29 (0, 0))).cell? ⟨fb, 3, none⟩ = some (.bool f.c.fin) := HLA.out.cell 3
    clear hka0
    go_wp2_with (at_builtin; refine halt ?_)
    have hkb : Keeps (fun _ => False) (w1.alloc (.cells #[.int .u64 0, .int .u64 f.c.id] 29 (0, 0))) ((w1.alloc (.cells #[.int .u64 0, .int .u64 f.c.id] 29 (0, 0))).alloc (.cells #[.int .u64 f.c.off] 29 (0, 0))) := (Keeps.refl _ _).alloc _
    refine Halted.go (wpList_uo _ rfl _ _ rfl w1.heap.size (some ⟨w1.heap.size, 0, none⟩) 2 2 [0, f.c.id] rfl (HU0.out.keep hkb (fun _ _ h => h)) _ 1 1 [f.c.off] rfl (by have h := Uv.one' (w1.alloc (.cells #[.int .u64 0, .int .u64 f.c.id] 29 (0, 0))) 29 f.c.off HWF.out.off; rwa [World.size_alloc] at h) (by omega) (by omega) (by simp; omega) ?_)
    intro la lc w4 hu4 hk4 hn4
    have HK4 : Hid (Keeps (fun _ => False) w1 w4) := Lib.hid (Keeps.trans2 (HKA.out.trans hkb) hk4 (fun i hi h => by have := h.1; omega))
    have hu4' : Uo w1.heap.size w4 la 3 lc [0, f.c.id, f.c.off] := hu4
    obtain ⟨g, rfl, hg, hlt, hfr⟩ := hu4'.row (by omega)
    have HU4 := Lib.hid hu4'
    have HL4 := Lib.hid (HK4.out.blk HL1.out (fun h => h))
    have y0 : w4.frozen? ⟨g, 0, none⟩ = false := hfr 0
    have d0 : w4.cell? ⟨g, 0, none⟩ = some (.int .u64 0) := by
     obtain ⟨b', off', e, _, hc⟩ := (hu4'.uv (fun v hv => by
      simp only [List.mem_cons, List.not_mem_nil, or_false] at hv
      rcases hv with rfl | rfl | rfl
      ·exact ⟨by omega, by omega⟩
      ·exact HWF.out.id
      ·exact HWF.out.off)).get (by omega)
     cases e
     exact hc 0 (by simp)
    have r3 : w4.cell? ⟨fb, 3, none⟩ = some (.bool f.c.fin) := HL4.out.cell 3
    have hcap4 : 3 ≤ lc := (hu4'.uv (fun v hv => by
      simp only [List.mem_cons, List.not_mem_nil, or_false] at hv
      rcases hv with rfl | rfl | rfl
      ·exact ⟨by omega, by omega⟩
      ·exact HWF.out.id
      ·exact HWF.out.off)).2.1.le
    clear hu4 hk4 hn4 hkb hfr hu4'
    go_wp2_with fail
    clear q0 q1 q2 q3 q8 s2 s3 hfin dof d1 d2 d3 hwr y0 d0 r3
    have HKX : Hid (Keeps (fun _ => False) w1 (w4.setCell ⟨g, 0, none⟩ (.int .u64 15))) := Lib.hid (Keeps.setCell (p := ⟨g, 0, none⟩) HK4.out (fun h => by have : g < w1.heap.size := h; omega) _)
    have HUX : Hid (Uo w1.heap.size (w4.setCell ⟨g, 0, none⟩ (.int .u64 15)) (some ⟨g, 0, none⟩) 3 lc [15, f.c.id, f.c.off]) := Lib.hid (HU4.out.set 0 15)
    have HFR5 : ∀ {a3 : Option Addr}, Near B w1 a a3 → ¬ mine B a3 fb := fun hn h => by
     rcases hn fb h.2 with rfl | ⟨h1, _⟩
     ·exact HFR.out h
     ·have := HL1.out.lt; omega
    have HKd : Hid (Keeps (fun _ => False) w1 (w4.setCell ⟨g, 0, none⟩ (.int .u64 15)).drew) := Lib.hid ((HKX.out).trans (Keeps.refl _ _).drew)
    have HDd := Lib.hid (HD1.out.same HKd.out)
    have HLd := Lib.hid (HKd.out.blk HL1.out (fun h => h))
    have hBd : B ≤ (w4.setCell ⟨g, 0, none⟩ (.int .u64 15)).drew.heap.size := Nat.le_trans hB1 HKd.out.size
    refine wp_region_held (S := fun w' : World => w'.cell? ⟨fb, 8, none⟩ = some (.slice f.a f.n f.cap)) (by kernel_rfl) ?_
    change wpAnyH _ _ _ _ _ _ _ _ (World.drew _)
    have hS : (fun w' : World => w'.cell? ⟨fb, 8, none⟩ = some (.slice f.a f.n f.cap)) (w4.setCell ⟨g, 0, none⟩ (.int .u64 15)).drew := (HLd.out.cell 8)
    refine tH (i := 0) (v := ?_) rfl ?_ hS ?_
    rotate_left
    ·intro wz _; go_simp; try with_reducible rfl
    refine tH (i := 1) (v := ?_) rfl ?_ hS ?_
    rotate_left
    ·intro wz _; go_simp; try with_reducible rfl
    refine tH (i := 2) (v := ?_) rfl ?_ hS ?_
    rotate_left
    ·intro wz _; go_simp; try with_reducible rfl
    refine tH (i := 6) (v := ?_) rfl ?_ hS ?_
    rotate_left
    ·intro wz _; go_simp; try with_reducible rfl
    refine tH (i := 7) (v := ?_) rfl ?_ hS ?_
    rotate_left
    ·intro wz _; go_simp; try with_reducible rfl
    have hka : Keeps (fun _ => False) (w4.setCell ⟨g, 0, none⟩ (.int .u64 15)).drew ((w4.setCell ⟨g, 0, none⟩ (.int .u64 15)).drew.alloc (.cells #[.int .u64 (f.n : Int)] 29 (0, 0))) := (Keeps.refl _ _).alloc _
    have hLd : w1.heap.size ≤ (w4.setCell ⟨g, 0, none⟩ (.int .u64 15)).drew.heap.size := HKd.out.size
    have hxd : Keeps (fun _ => False) (w4.setCell ⟨g, 0, none⟩ (.int .u64 15)) (w4.setCell ⟨g, 0, none⟩ (.int .u64 15)).drew := (Keeps.refl _ _).drew
    refine held_do (i := 3) (.slice (some ⟨(w4.setCell ⟨g, 0, none⟩ (.int .u64 15)).heap.size, 0, none⟩) 1 1) ((w4.setCell ⟨g, 0, none⟩ (.int .u64 15)).drew.alloc (.cells #[.int .u64 (f.n : Int)] 29 (0, 0))) rfl (by kernel_rfl) (by kernel_rfl) ?_ ((hka.blk HLd.out (fun h => h)).cell 8) ?_
    ·go_simp; try with_reducible rfl
    refine held_uo (i := 4) rfl (by kernel_rfl) (by kernel_rfl) (.tmp 132) (.tmp 134) rfl w1.heap.size (some ⟨g, 0, none⟩) 3 lc [15, f.c.id, f.c.off] (by kernel_rfl) ((HUX.out.keep hxd (fun _ _ h => h)).keep hka (fun _ _ h => h)) _ 1 1 [(f.n : Int)] (by kernel_rfl) (Uv.one' (w4.setCell ⟨g, 0, none⟩ (.int .u64 15)).drew _ (f.n : Int) ⟨by omega, by omega⟩) (by omega) (by omega) (Nat.le_trans hLd hka.size) ?_
    intro l5 lc5 w5 hu5 hk5 hn5
    have hk15 : Keeps (fun _ => False) w1 w5 := Keeps.trans2 (HKd.out.trans hka) hk5 (fun i hi h => by have := h.1; omega)
    have hl5 := hk15.blk HL1.out (fun h => h)
    refine ⟨(hl5.cell 8), ?_⟩
    clear hS
    have hS : (fun w' : World => w'.cell? ⟨fb, 8, none⟩ = some (.slice f.a f.n f.cap)) w5 := (hl5.cell 8)
    refine held_call (i := 5) 44 #[.slice a n c, .slice l5 (3 + 1) lc5] rfl (by kernel_rfl) (by kernel_rfl) ?_ ?_
    ·go_simp; try with_reducible rfl
    have hB5 : B ≤ w5.heap.size := Nat.le_trans hB1 hk15.size
    refine (put_any B a n c xs l5 (3 + 1) lc5 ([15, f.c.id, f.c.off] ++ [(f.n : Int)]) w5 (HD1.out.same hk15) (hu5.uv HPI.out) (by simp) HV.out (fun b hb h => by have h1 := (hu5.ge b hb).1; have h2 := HD1.out.2 b h.2; omega) (by omega) (by omega) hB5).mono ?_
    rintro e w3 ⟨hk3, a3, n3, c3, rfl, hs3, hn3⟩
    have hn13 : Near B w1 a a3 := near_to hn3 hk15.size
    have hk13 : Keeps (mine B a) w1 w3 := hk15.to.trans hk3
    have hl3 := hk13.blk HL1.out HFR.out
    have hB3 : B ≤ w3.heap.size := Nat.le_trans hB5 hk3.size
    have hln3 : n3 ≤ n + 40 := by
     have h1 := hs3.1.1
     have h2 := HD1.out.1.1
     have h3 := numsO_len (numsO_yes (xs := xs) HV.out)
     simp only [List.length_append, List.length_cons, List.length_nil] at h1 h3
     omega
    have HY := Lib.hid (HF.out w3 (Keeps.below HB1.out hk13 hB1 (fun k h => h.1))).b
    refine ⟨_, rfl, (hl3.cell 8), ?_⟩
    clear hS
    have hS : (fun w' : World => w'.cell? ⟨fb, 8, none⟩ = some (.slice f.a f.n f.cap)) w3 := (hl3.cell 8)
    refine held_bd (i := 8) rfl (by kernel_rfl) (by kernel_rfl) (.tmp 136) (.tmp 138) rfl B a3 n3 c3 (xs ++ varsE ([15, f.c.id, f.c.off] ++ [(f.n : Int)])) (by kernel_rfl) hs3 f.a f.n f.cap f.c.xs (by kernel_rfl) HY.out (by omega) hB3 ?_
    intro a4 c4 w4 hs4 hk4 hn4
    have hl4 := hk4.blk hl3 (fun h => HFR5 hn13 h)
    refine ⟨(hl4.cell 8), ?_⟩
    have HS9 := Lib.hid hs4
    have HK9 : Hid (Keeps (mine B a) w w4) := Lib.hid (HK0.out.to.trans (Keeps.step hk13 hn13 hk4))
    have HN9 : Hid (Near B w a a4) := Lib.hid (near_to (Near.step hn13 hk13 hn4) HK0.out.size)
    clear hS
    have hS : (fun w' : World => w'.cell? ⟨fb, 8, none⟩ = some (.slice f.a f.n f.cap)) w4 := (hl4.cell 8)
    refine tH (i := 9) (v := ?_) rfl ?_ hS ?_
    rotate_left
    ·intro wz _; go_simp; try with_reducible rfl
    refine tH (i := 10) (v := ?_) rfl ?_ hS ?_
    rotate_left
    ·intro wz _; go_simp; try with_reducible rfl
    refine wpAnyH_done (by kernel_rfl) ?_ _
    clear hS
    go_wp2_with fail
    refine bodyPost_ret (v := .tuple #[.slice a4 (n3 + f.n) c4, .bool true]) (by kernel_rfl) (by kernel_rfl) ?_
    refine ⟨HK9.out, ?_⟩
    rw [HE8.out]
    exact ⟨_, _, _, rfl, HS9.out, HN9.out⟩
   ·have d3 : decide ((4611686018427387903 : Int) < f.c.off + (f.n : Int)) = true := by simp; omega
    have HEN : Hid (endB f.c.off f.n = false) := Lib.hid (by unfold endB; simp; omega)
    clear h1 h2
    go_wp2_with fail
    go_returns
    refine ⟨HK0.out.to, ?_⟩
    rw [encO_no (by rw [HT.out]; decide) (by rw [HPL.out, ← HXL.out, HEN.out]; rfl)]
    rfl
  ·have d2 : decide ((4611686018427387903 : Int) < f.c.off) = true := by simp; omega
   have HEN : Hid (endB f.c.off f.n = false) := Lib.hid (by unfold endB; simp; omega)
   clear h1
   go_wp2_with fail
   go_returns
   refine ⟨HK0.out.to, ?_⟩
   rw [encO_no (by rw [HT.out]; decide) (by rw [HPL.out, ← HXL.out, HEN.out]; rfl)]
   rfl
 ·have d1 : decide ((4611686018427387903 : Int) < f.c.id) = true := by simp; omega
  have HEN : Hid (encO xs f.c = none) := Lib.hid (by
   cases hen : endB f.c.off f.n with
   | false => exact encO_no (by rw [HT.out]; decide) (by rw [HPL.out, ← HXL.out, hen]; rfl)
   | true =>
    by_cases ho : f.c.off = 0
    ·rw [encO_plan (by rw [HT.out]; decide) (l := [strT f.c, f.c.id, (f.c.xs.length : Int)]) (tl := f.c.xs) (by rw [HPL.out, ← HXL.out, hen, if_pos rfl, if_pos ho]), numsO_no (by simp [varsOK]; omega)]; rfl
    ·rw [encO_plan (by rw [HT.out]; decide) (l := [strT f.c, f.c.id, f.c.off, (f.c.xs.length : Int)]) (tl := f.c.xs) (by rw [HPL.out, ← HXL.out, hen, if_pos rfl, if_neg ho]), numsO_no (by simp [varsOK]; omega)]; rfl)
  clear h0
  go_wp2_with fail
  go_returns
  refine ⟨HK0.out.to, ?_⟩
  rw [HEN.out]
  rfl

theorem one_8 (B : Nat) (a : Option Addr) (n c : Nat) (xs : List UInt8) (f : Qf) (w : World) (hd : Sb B w a n c xs) (hf : ∀ w', Below B w w' → Qin w' f) (ht : f.c.t = 8) (hn : n ≤ 10000000) (hn8 : f.n ≤ 1000000) (hB : B ≤ w.heap.size) :
  Calls Try.prog 25 #[.slice a n c, .agg f.cs] w (OneP B a (encO xs f.c) w) := by
 by_cases ho : f.c.off = 0
 ·cases hfi : f.c.fin with
  | false => exact one_8_z B a n c xs f w hd hf ht ho hfi hn hn8 hB
  | true => exact one_8_zf B a n c xs f w hd hf ht ho hfi hn hn8 hB
 ·cases hfi : f.c.fin with
  | false => exact one_8_o B a n c xs f w hd hf ht ho hfi hn hn8 hB
  | true => exact one_8_of B a n c xs f w hd hf ht ho hfi hn hn8 hB

end Go.Proofs.Ytgfkgmmigbpciaa
