import Derived.Test.YtgfkgmmigbpciaaQfJ
import Derived.Deep.RegionHeld3
/- The reference's writer: put, fit, one. -/
namespace Go.Proofs.Ytgfkgmmigbpciaa
set_option linter.unusedSimpArgs false
set_option linter.unusedVariables false
open Go.RowKit Go.Deep

/-- Bytes that lie where something stands. -/
def Sb (B : Nat) (w : World) (a : Option Addr) (n c : Nat) (xs : List UInt8) : Prop := Bd B w a n c xs ∧ ∀ b, a.map (·.block) = some b → b < w.heap.size
theorem Sb.keep {B : Nat} {w w' : World} {a : Option Addr} {n c : Nat} {xs : List UInt8} {S : Nat → Prop} (h : Sb B w a n c xs) (k : Keeps S w w') (hs : ∀ b, a.map (·.block) = some b → ¬ S b) : Sb B w' a n c xs :=
 ⟨h.1.keep k hs, fun b hb => Nat.lt_of_lt_of_le (h.2 b hb) k.size⟩
theorem Sb.same {B : Nat} {w w' : World} {a : Option Addr} {n c : Nat} {xs : List UInt8} (h : Sb B w a n c xs) (k : Keeps (fun _ => False) w w') : Sb B w' a n c xs := h.keep k (fun _ _ h => h)
theorem Bo.sb {B : Nat} {w : World} {a : Option Addr} {n c : Nat} {xs : List UInt8} (h : Bo B w a n c xs) : Sb B w a n c xs := ⟨h.bd, fun b hb => (h.ge b hb).2⟩
theorem Sb.nil (B : Nat) (w : World) : Sb B w none 0 0 [] := (Bo.nil B w).sb
theorem Bd.sb {B : Nat} {w : World} {a : Option Addr} {n c : Nat} {xs : List UInt8} (h : Bd B w a n c xs) (hn : 0 < n) : Sb B w a n c xs := ⟨h, h.by.2.lt hn⟩
theorem Sb.fresh {B : Nat} {w : World} {a : Option Addr} {n c : Nat} {xs : List UInt8} (h : Sb B w a n c xs) {fb : Nat} (hf : w.heap.size ≤ fb) : ¬ mine B a fb := fun k => by have := h.2 fb k.2; omega

/-- What one frame's writing answers. -/
def OneP (B : Nat) (a : Option Addr) (r : Option (List UInt8)) (w : World) (e : Ending) (w' : World) : Prop :=
 Keeps (mine B a) w w' ∧ match r with
  | some ys => ∃ a' n' c', e = .returned (.tuple #[.slice a' n' c', .bool true]) ∧ Sb B w' a' n' c' ys ∧ Near B w a a'
  | none => e = .returned (.tuple #[.slice none 0 0, .bool false])
def PutP (B : Nat) (a : Option Addr) (ys : List UInt8) (w : World) (e : Ending) (w' : World) : Prop :=
 Keeps (mine B a) w w' ∧ ∃ a' n' c', e = .returned (.slice a' n' c') ∧ Sb B w' a' n' c' ys ∧ Near B w a a'

theorem rone_any (b : Bool) (w : World) : Calls Try.prog 45 #[.bool b] w fun e w' => e = .returned (.int .u64 (b2i b)) ∧ w = w' := by
 cases b with
 | false =>
  go_enter Try.func45, Try.ntmps45
  go_wp2_with fail
  go_returns
  exact ⟨rfl, rfl⟩
 | true =>
  go_enter Try.func45, Try.ntmps45
  go_wp2_with fail
  go_returns
  exact ⟨rfl, rfl⟩

theorem varE_pos {v : Int} (h : v ≤ 4611686018427387903) : 0 < (varE v).length := by
 unfold varE
 (repeat' split) <;> simp [bigD_length] <;> omega
theorem varsE_pos {vs : List Int} (h : 0 < vs.length) (hv : varsOK vs = true) : 0 < (varsE vs).length := by
 cases vs with
 | nil => simp at h
 | cons v vs =>
  have h1 : varsE (v :: vs) = varE v ++ varsE vs := by simp [varsE]
  have h2 : v ≤ 4611686018427387903 := by
   rw [varsOK_cons] at hv
   simp [varsOK] at hv
   exact hv.1
  rw [h1, List.length_append]
  have := varE_pos h2
  omega

set_option maxHeartbeats 800000 in
theorem put_any (B : Nat) (a : Option Addr) (n c : Nat) (xs : List UInt8) (va : Option Addr) (vn vc : Nat) (vs : List Int) (w : World) (hd : Sb B w a n c xs) (hv : Uv w va vn vc vs) (h0 : 0 < vs.length) (hok : varsOK vs = true) (hfar : ∀ b, va.map (·.block) = some b → ¬ mine B a b) (hn : n ≤ 1000000000) (hvn : vn ≤ 1000000000) (hB : B ≤ w.heap.size) :
  Calls Try.prog 44 #[.slice a n c, .slice va vn vc] w (PutP B a (xs ++ varsE vs) w) := by
 go_enter Try.func44, Try.ntmps44
 go_wp2_with fail
 refine (varsr_any B a n c xs va vn vc vs w hd.1 hv hB (fun _ => hfar) hn hvn).mono ?_
 rintro e w1 ⟨a1, n1, c1, rfl, ho, hk, hnr⟩
 have HO := Lib.hid ho
 have HK := Lib.hid hk
 have HN := Lib.hid hnr
 clear ho hk hnr
 go_wp2_with fail
 go_returns
 have h := HO.out
 have e : varsR xs vs = xs ++ varsE vs := by unfold varsR; rw [if_pos hok]
 rw [e] at h
 refine ⟨HK.out, _, _, _, rfl, h.sb ?_, HN.out⟩
 have := h.1
 have := varsE_pos h0 hok
 rw [List.length_append] at *
 omega
/-- Numbers that have just been laid are written. -/
theorem put_new (B : Nat) (a : Option Addr) (n c : Nat) (xs : List UInt8) (cs : Array Value) (vn : Nat) (vs : List Int) (w : World) (hd : Sb B w a n c xs) (hv : Uv (w.alloc (.cells cs 29 (0, 0))) (some ⟨w.heap.size, 0, none⟩) vn vn vs) (h0 : 0 < vs.length) (hok : varsOK vs = true) (hn : n ≤ 1000000000) (hvn : vn ≤ 1000000000) (hB : B ≤ w.heap.size) :
  Calls Try.prog 44 #[.slice a n c, .slice (some ⟨w.heap.size, 0, none⟩) vn vn] (w.alloc (.cells cs 29 (0, 0))) (PutP B a (xs ++ varsE vs) w) := by
 have hk0 : Keeps (fun _ => False) w (w.alloc (.cells cs 29 (0, 0))) := (Keeps.refl _ w).alloc _
 refine (put_any B a n c xs _ vn vn vs _ (hd.same hk0) hv h0 hok (fun b hb => by cases hb; exact hd.fresh (Nat.le_refl _)) hn hvn (Nat.le_trans hB hk0.size)).mono ?_
 rintro e w' ⟨h1, a', n', c', h2, h3, h4⟩
 exact ⟨hk0.to.trans h1, a', n', c', h2, h3, near_to h4 hk0.size⟩

set_option maxHeartbeats 800000 in
theorem fit_any (va : Option Addr) (vn vc : Nat) (vs : List Int) (w : World) (hv : Uv w va vn vc vs) (hvn : vn ≤ 1000000000) :
  Calls Try.prog 46 #[.slice va vn vc] w fun e w' => e = .returned (.bool (varsOK vs)) ∧ w = w' := by
 have hcap := hv.2.1.le
 have hmax := hv.2.1.max
 unfold maxLen at hmax
 have HV := Lib.hid hv
 have HM := Lib.hid hv.1
 clear hv
 go_enter Try.func46, Try.ntmps46
 go_wp2_with fail
 go_loopg [3] vn (fun k vi wr => ∃ (i : Nat), k + i = vn ∧ vi = .int .i64 i ∧ varsOK (vs.take i) = true ∧ w = wr)
 case atStart => exact ⟨0, by omega, rfl, rfl, rfl⟩
 case round =>
  obtain ⟨i, hi, rfl, hok, hw⟩ := hrel
  subst hw
  have HOK := Lib.hid hok
  have HI := Lib.hid hi
  clear hok hi
  by_cases hik : i < vn
  ·have hix : i < vs.length := by have := HM.out; omega
   obtain ⟨b2, off2, rfl, hblt, hcell⟩ := HV.out.get (by omega)
   have hc := hcell i hix
   have z1 : (0 : Int) ≤ (i : Int) := by omega
   have z2 : (i : Int) < (vn : Int) := by omega
   clear hcell
   by_cases hov : vs[i] ≤ 4611686018427387903
   ·have hd2 : decide ((4611686018427387903 : Int) < vs[i]) = false := by simp; omega
    go_wp2_with fail
    obtain ⟨k', rfl⟩ : ∃ k', gk = k' + 1 := ⟨gk - 1, by have := HI.out; omega⟩
    go_roundg k'
    case measure => omega
    case rel => exact ⟨i + 1, by have := HI.out; omega, by go_num, varsOK_step hix HOK.out hov, rfl⟩
   ·have hd2 : decide ((4611686018427387903 : Int) < vs[i]) = true := by simp; omega
    have HE := Lib.hid (varsOK_not hix (by omega))
    go_wp2_with fail
    go_returns
    exact ⟨by rw [HE.out]; rfl, rfl⟩
  ·have hik2 : i = vn := by have := HI.out; omega
   have HE : Hid (varsOK vs = true) := by
    have := HOK.out
    rw [hik2, HM.out, List.take_length] at this
    exact Lib.hid this
   have hnlt : decide ((i : Int) < (vn : Int)) = false := by simp; omega
   go_wp2_with fail
   go_returns
   exact ⟨by rw [HE.out]; rfl, rfl⟩

end Go.Proofs.Ytgfkgmmigbpciaa

/- One of the reference: numbers alone. -/
namespace Go.Proofs.Ytgfkgmmigbpciaa
set_option linter.unusedSimpArgs false
set_option linter.unusedVariables false
open Go.RowKit Go.Deep

set_option maxRecDepth 100000 in
set_option maxHeartbeats 3200000 in
theorem one_4 (B : Nat) (a : Option Addr) (n c : Nat) (xs : List UInt8) (f : Qf) (w : World) (hd : Sb B w a n c xs) (hf : ∀ w', Below B w w' → Qin w' f) (ht : f.c.t = 4) (hn : n ≤ 10000000) (hn8 : f.n ≤ 1000000) (hB : B ≤ w.heap.size) :
  Calls Try.prog 25 #[.slice a n c, .agg f.cs] w (OneP B a (encO xs f.c) w) := by
 have HD := Lib.hid hd
 have HF := Lib.hid hf
 have HWF := Lib.hid (hf w (Below.refl _ _)).wf
 have HXL := Lib.hid (hf w (Below.refl _ _)).b.1
 have HK0 : Hid (Keeps (fun _ => False) w (w.alloc (.cells f.cs 32 (0, 0)))) := Lib.hid ((Keeps.refl _ w).alloc _)
 have HL1 := Lib.hid (Blk.new w f.cs 32)
 clear hd hf
 have HT := Lib.hid ht
 have e0 : (f.c.t == 0) = false := by simp [ht]
 have e1 : (f.c.t == 1) = false := by simp [ht]
 have e30 : (f.c.t == 30) = false := by simp [ht]
 have e2 : (f.c.t == 2) = false := by simp [ht]
 have e4 : (f.c.t == 4) = true := by simp [ht]
 have HPL := Lib.hid (plan_4 ht)
 clear ht
 unfold Qf.cs at HK0 HL1 ⊢
 have HD1 := Lib.hid (HD.out.same HK0.out)
 go_enter Try.func25, Try.ntmps25
 go_upto_region 1 with fail
 refine wp_named ?_
 intro w1 hw1
 rw [hw1] at HK0 HL1 HD1
 have hs1 : w.heap.size ≤ w1.heap.size := HK0.out.size
 have HFR : Hid (¬ mine B a w.heap.size) := Lib.hid (HD.out.fresh (Nat.le_refl _))
 have HB1 : Hid (Below B w w1) := Lib.hid (Keeps.below (Below.refl B w) HK0.out hB (fun _ h => False.elim h))
 clear hw1
 generalize w.heap.size = fb at *
 have hB1 : B ≤ w1.heap.size := by omega
 have hx8 : IntKind.u64.wrap (f.n : Int) = (f.n : Int) := by rw [IntKind.wrap_u64]; omega
 have q8 : w1.cell? ⟨fb, 8, none⟩ = some (.slice f.a f.n f.cap) := HL1.out.cell 8
 have q0 : w1.cell? ⟨fb, 0, none⟩ = some (.int .u64 f.c.t) := HL1.out.cell 0
 have q1 : w1.cell? ⟨fb, 1, none⟩ = some (.int .u64 f.c.id) := HL1.out.cell 1
 have q5 : w1.cell? ⟨fb, 5, none⟩ = some (.int .u64 f.c.code) := HL1.out.cell 5
 have q4 : w1.cell? ⟨fb, 4, none⟩ = some (.int .u64 f.c.mx) := HL1.out.cell 4
 go_wp2_with fail
 clear q8 q0 q1 q5 q4
 have HU := Lib.hid (Uv.four w1 29 f.c.t f.c.id f.c.code f.c.mx HWF.out.t HWF.out.id HWF.out.code HWF.out.mx)
 refine (fit_any _ 4 4 [f.c.t, f.c.id, f.c.code, f.c.mx] _ HU.out (by omega)).mono ?_
 rintro e w' ⟨rfl, rfl⟩
 have HE8 : Hid (encO xs f.c = numsO xs [f.c.t, f.c.id, f.c.code, f.c.mx]) := Lib.hid (encO_nums (by rw [HT.out]; decide) (by rw [HPL.out, HT.out]))
 cases hv : varsOK [f.c.t, f.c.id, f.c.code, f.c.mx] with
 | false =>
  have HV := Lib.hid hv
  clear hv
  go_wp2_with fail
  go_returns
  refine ⟨(HK0.out.alloc _).to, ?_⟩
  rw [HE8.out, numsO_no HV.out]
  rfl
 | true =>
  have HV := Lib.hid hv
  clear hv
  go_wp2_with fail
  refine (put_new B a n c xs #[.int .u64 f.c.t, .int .u64 f.c.id, .int .u64 f.c.code, .int .u64 f.c.mx] 4 [f.c.t, f.c.id, f.c.code, f.c.mx] w1 HD1.out HU.out (by simp) HV.out (by omega) (by omega) hB1).mono ?_
  rintro e w9 ⟨hk9, a9, n9, c9, rfl, hs9, hn9⟩
  have HK9 := Lib.hid (HK0.out.to.trans hk9)
  have HN9 := Lib.hid (near_to hn9 HK0.out.size)
  have HS9 := Lib.hid hs9
  clear hk9 hn9 hs9
  go_wp2_with fail
  go_returns
  refine ⟨HK9.out, ?_⟩
  rw [HE8.out, numsO_yes HV.out]
  exact ⟨_, _, _, rfl, HS9.out, HN9.out⟩

set_option maxRecDepth 100000 in
set_option maxHeartbeats 3200000 in
theorem one_5 (B : Nat) (a : Option Addr) (n c : Nat) (xs : List UInt8) (f : Qf) (w : World) (hd : Sb B w a n c xs) (hf : ∀ w', Below B w w' → Qin w' f) (ht : f.c.t = 5) (hn : n ≤ 10000000) (hn8 : f.n ≤ 1000000) (hB : B ≤ w.heap.size) :
  Calls Try.prog 25 #[.slice a n c, .agg f.cs] w (OneP B a (encO xs f.c) w) := by
 have HD := Lib.hid hd
 have HF := Lib.hid hf
 have HWF := Lib.hid (hf w (Below.refl _ _)).wf
 have HXL := Lib.hid (hf w (Below.refl _ _)).b.1
 have HK0 : Hid (Keeps (fun _ => False) w (w.alloc (.cells f.cs 32 (0, 0)))) := Lib.hid ((Keeps.refl _ w).alloc _)
 have HL1 := Lib.hid (Blk.new w f.cs 32)
 clear hd hf
 have HT := Lib.hid ht
 have e0 : (f.c.t == 0) = false := by simp [ht]
 have e1 : (f.c.t == 1) = false := by simp [ht]
 have e30 : (f.c.t == 30) = false := by simp [ht]
 have e2 : (f.c.t == 2) = false := by simp [ht]
 have e4 : (f.c.t == 4) = false := by simp [ht]
 have e5 : (f.c.t == 5) = true := by simp [ht]
 have HPL := Lib.hid (plan_5 ht)
 clear ht
 unfold Qf.cs at HK0 HL1 ⊢
 have HD1 := Lib.hid (HD.out.same HK0.out)
 go_enter Try.func25, Try.ntmps25
 go_upto_region 1 with fail
 refine wp_named ?_
 intro w1 hw1
 rw [hw1] at HK0 HL1 HD1
 have hs1 : w.heap.size ≤ w1.heap.size := HK0.out.size
 have HFR : Hid (¬ mine B a w.heap.size) := Lib.hid (HD.out.fresh (Nat.le_refl _))
 have HB1 : Hid (Below B w w1) := Lib.hid (Keeps.below (Below.refl B w) HK0.out hB (fun _ h => False.elim h))
 clear hw1
 generalize w.heap.size = fb at *
 have hB1 : B ≤ w1.heap.size := by omega
 have hx8 : IntKind.u64.wrap (f.n : Int) = (f.n : Int) := by rw [IntKind.wrap_u64]; omega
 have q8 : w1.cell? ⟨fb, 8, none⟩ = some (.slice f.a f.n f.cap) := HL1.out.cell 8
 have q0 : w1.cell? ⟨fb, 0, none⟩ = some (.int .u64 f.c.t) := HL1.out.cell 0
 have q1 : w1.cell? ⟨fb, 1, none⟩ = some (.int .u64 f.c.id) := HL1.out.cell 1
 have q5 : w1.cell? ⟨fb, 5, none⟩ = some (.int .u64 f.c.code) := HL1.out.cell 5
 go_wp2_with fail
 clear q8 q0 q1 q5
 have HU := Lib.hid (Uv.three w1 29 f.c.t f.c.id f.c.code HWF.out.t HWF.out.id HWF.out.code)
 refine (fit_any _ 3 3 [f.c.t, f.c.id, f.c.code] _ HU.out (by omega)).mono ?_
 rintro e w' ⟨rfl, rfl⟩
 have HE8 : Hid (encO xs f.c = numsO xs [f.c.t, f.c.id, f.c.code]) := Lib.hid (encO_nums (by rw [HT.out]; decide) (by rw [HPL.out, HT.out]))
 cases hv : varsOK [f.c.t, f.c.id, f.c.code] with
 | false =>
  have HV := Lib.hid hv
  clear hv
  go_wp2_with fail
  go_returns
  refine ⟨(HK0.out.alloc _).to, ?_⟩
  rw [HE8.out, numsO_no HV.out]
  rfl
 | true =>
  have HV := Lib.hid hv
  clear hv
  go_wp2_with fail
  refine (put_new B a n c xs #[.int .u64 f.c.t, .int .u64 f.c.id, .int .u64 f.c.code] 3 [f.c.t, f.c.id, f.c.code] w1 HD1.out HU.out (by simp) HV.out (by omega) (by omega) hB1).mono ?_
  rintro e w9 ⟨hk9, a9, n9, c9, rfl, hs9, hn9⟩
  have HK9 := Lib.hid (HK0.out.to.trans hk9)
  have HN9 := Lib.hid (near_to hn9 HK0.out.size)
  have HS9 := Lib.hid hs9
  clear hk9 hn9 hs9
  go_wp2_with fail
  go_returns
  refine ⟨HK9.out, ?_⟩
  rw [HE8.out, numsO_yes HV.out]
  exact ⟨_, _, _, rfl, HS9.out, HN9.out⟩

set_option maxRecDepth 100000 in
set_option maxHeartbeats 3200000 in
theorem one_16 (B : Nat) (a : Option Addr) (n c : Nat) (xs : List UInt8) (f : Qf) (w : World) (hd : Sb B w a n c xs) (hf : ∀ w', Below B w w' → Qin w' f) (ht : f.c.t = 16) (hn : n ≤ 10000000) (hn8 : f.n ≤ 1000000) (hB : B ≤ w.heap.size) :
  Calls Try.prog 25 #[.slice a n c, .agg f.cs] w (OneP B a (encO xs f.c) w) := by
 have HD := Lib.hid hd
 have HF := Lib.hid hf
 have HWF := Lib.hid (hf w (Below.refl _ _)).wf
 have HXL := Lib.hid (hf w (Below.refl _ _)).b.1
 have HK0 : Hid (Keeps (fun _ => False) w (w.alloc (.cells f.cs 32 (0, 0)))) := Lib.hid ((Keeps.refl _ w).alloc _)
 have HL1 := Lib.hid (Blk.new w f.cs 32)
 clear hd hf
 have HT := Lib.hid ht
 have e0 : (f.c.t == 0) = false := by simp [ht]
 have e1 : (f.c.t == 1) = false := by simp [ht]
 have e30 : (f.c.t == 30) = false := by simp [ht]
 have e2 : (f.c.t == 2) = false := by simp [ht]
 have e4 : (f.c.t == 4) = false := by simp [ht]
 have e5 : (f.c.t == 5) = false := by simp [ht]
 have e6 : (f.c.t == 6) = false := by simp [ht]
 have e7 : (f.c.t == 7) = false := by simp [ht]
 have e8 : (f.c.t == 8) = false := by simp [ht]
 have e16 : (f.c.t == 16) = true := by simp [ht]
 have HPL := Lib.hid (plan_16 ht)
 clear ht
 unfold Qf.cs at HK0 HL1 ⊢
 have HD1 := Lib.hid (HD.out.same HK0.out)
 go_enter Try.func25, Try.ntmps25
 go_upto_region 1 with fail
 refine wp_named ?_
 intro w1 hw1
 rw [hw1] at HK0 HL1 HD1
 have hs1 : w.heap.size ≤ w1.heap.size := HK0.out.size
 have HFR : Hid (¬ mine B a w.heap.size) := Lib.hid (HD.out.fresh (Nat.le_refl _))
 have HB1 : Hid (Below B w w1) := Lib.hid (Keeps.below (Below.refl B w) HK0.out hB (fun _ h => False.elim h))
 clear hw1
 generalize w.heap.size = fb at *
 have hB1 : B ≤ w1.heap.size := by omega
 have hx8 : IntKind.u64.wrap (f.n : Int) = (f.n : Int) := by rw [IntKind.wrap_u64]; omega
 have q8 : w1.cell? ⟨fb, 8, none⟩ = some (.slice f.a f.n f.cap) := HL1.out.cell 8
 have q0 : w1.cell? ⟨fb, 0, none⟩ = some (.int .u64 f.c.t) := HL1.out.cell 0
 have q4 : w1.cell? ⟨fb, 4, none⟩ = some (.int .u64 f.c.mx) := HL1.out.cell 4
 go_wp2_with fail
 clear q8 q0 q4
 have HU := Lib.hid (Uv.two' w1 29 f.c.t f.c.mx HWF.out.t HWF.out.mx)
 refine (fit_any _ 2 2 [f.c.t, f.c.mx] _ HU.out (by omega)).mono ?_
 rintro e w' ⟨rfl, rfl⟩
 have HE8 : Hid (encO xs f.c = numsO xs [f.c.t, f.c.mx]) := Lib.hid (encO_nums (by rw [HT.out]; decide) (by rw [HPL.out, HT.out]))
 cases hv : varsOK [f.c.t, f.c.mx] with
 | false =>
  have HV := Lib.hid hv
  clear hv
  go_wp2_with fail
  go_returns
  refine ⟨(HK0.out.alloc _).to, ?_⟩
  rw [HE8.out, numsO_no HV.out]
  rfl
 | true =>
  have HV := Lib.hid hv
  clear hv
  go_wp2_with fail
  refine (put_new B a n c xs #[.int .u64 f.c.t, .int .u64 f.c.mx] 2 [f.c.t, f.c.mx] w1 HD1.out HU.out (by simp) HV.out (by omega) (by omega) hB1).mono ?_
  rintro e w9 ⟨hk9, a9, n9, c9, rfl, hs9, hn9⟩
  have HK9 := Lib.hid (HK0.out.to.trans hk9)
  have HN9 := Lib.hid (near_to hn9 HK0.out.size)
  have HS9 := Lib.hid hs9
  clear hk9 hn9 hs9
  go_wp2_with fail
  go_returns
  refine ⟨HK9.out, ?_⟩
  rw [HE8.out, numsO_yes HV.out]
  exact ⟨_, _, _, rfl, HS9.out, HN9.out⟩

set_option maxRecDepth 100000 in
set_option maxHeartbeats 3200000 in
theorem one_20 (B : Nat) (a : Option Addr) (n c : Nat) (xs : List UInt8) (f : Qf) (w : World) (hd : Sb B w a n c xs) (hf : ∀ w', Below B w w' → Qin w' f) (ht : f.c.t = 20) (hn : n ≤ 10000000) (hn8 : f.n ≤ 1000000) (hB : B ≤ w.heap.size) :
  Calls Try.prog 25 #[.slice a n c, .agg f.cs] w (OneP B a (encO xs f.c) w) := by
 have HD := Lib.hid hd
 have HF := Lib.hid hf
 have HWF := Lib.hid (hf w (Below.refl _ _)).wf
 have HXL := Lib.hid (hf w (Below.refl _ _)).b.1
 have HK0 : Hid (Keeps (fun _ => False) w (w.alloc (.cells f.cs 32 (0, 0)))) := Lib.hid ((Keeps.refl _ w).alloc _)
 have HL1 := Lib.hid (Blk.new w f.cs 32)
 clear hd hf
 have HT := Lib.hid ht
 have e0 : (f.c.t == 0) = false := by simp [ht]
 have e1 : (f.c.t == 1) = false := by simp [ht]
 have e30 : (f.c.t == 30) = false := by simp [ht]
 have e2 : (f.c.t == 2) = false := by simp [ht]
 have e4 : (f.c.t == 4) = false := by simp [ht]
 have e5 : (f.c.t == 5) = false := by simp [ht]
 have e6 : (f.c.t == 6) = false := by simp [ht]
 have e7 : (f.c.t == 7) = false := by simp [ht]
 have e8 : (f.c.t == 8) = false := by simp [ht]
 have e16 : (f.c.t == 16) = false := by simp [ht]
 have e20 : (f.c.t == 20) = true := by simp [ht]
 have HPL := Lib.hid (plan_20 ht)
 clear ht
 unfold Qf.cs at HK0 HL1 ⊢
 have HD1 := Lib.hid (HD.out.same HK0.out)
 go_enter Try.func25, Try.ntmps25
 go_upto_region 1 with fail
 refine wp_named ?_
 intro w1 hw1
 rw [hw1] at HK0 HL1 HD1
 have hs1 : w.heap.size ≤ w1.heap.size := HK0.out.size
 have HFR : Hid (¬ mine B a w.heap.size) := Lib.hid (HD.out.fresh (Nat.le_refl _))
 have HB1 : Hid (Below B w w1) := Lib.hid (Keeps.below (Below.refl B w) HK0.out hB (fun _ h => False.elim h))
 clear hw1
 generalize w.heap.size = fb at *
 have hB1 : B ≤ w1.heap.size := by omega
 have hx8 : IntKind.u64.wrap (f.n : Int) = (f.n : Int) := by rw [IntKind.wrap_u64]; omega
 have q8 : w1.cell? ⟨fb, 8, none⟩ = some (.slice f.a f.n f.cap) := HL1.out.cell 8
 have q0 : w1.cell? ⟨fb, 0, none⟩ = some (.int .u64 f.c.t) := HL1.out.cell 0
 have q4 : w1.cell? ⟨fb, 4, none⟩ = some (.int .u64 f.c.mx) := HL1.out.cell 4
 go_wp2_with fail
 clear q8 q0 q4
 have HU := Lib.hid (Uv.two' w1 29 f.c.t f.c.mx HWF.out.t HWF.out.mx)
 refine (fit_any _ 2 2 [f.c.t, f.c.mx] _ HU.out (by omega)).mono ?_
 rintro e w' ⟨rfl, rfl⟩
 have HE8 : Hid (encO xs f.c = numsO xs [f.c.t, f.c.mx]) := Lib.hid (encO_nums (by rw [HT.out]; decide) (by rw [HPL.out, HT.out]))
 cases hv : varsOK [f.c.t, f.c.mx] with
 | false =>
  have HV := Lib.hid hv
  clear hv
  go_wp2_with fail
  go_returns
  refine ⟨(HK0.out.alloc _).to, ?_⟩
  rw [HE8.out, numsO_no HV.out]
  rfl
 | true =>
  have HV := Lib.hid hv
  clear hv
  go_wp2_with fail
  refine (put_new B a n c xs #[.int .u64 f.c.t, .int .u64 f.c.mx] 2 [f.c.t, f.c.mx] w1 HD1.out HU.out (by simp) HV.out (by omega) (by omega) hB1).mono ?_
  rintro e w9 ⟨hk9, a9, n9, c9, rfl, hs9, hn9⟩
  have HK9 := Lib.hid (HK0.out.to.trans hk9)
  have HN9 := Lib.hid (near_to hn9 HK0.out.size)
  have HS9 := Lib.hid hs9
  clear hk9 hn9 hs9
  go_wp2_with fail
  go_returns
  refine ⟨HK9.out, ?_⟩
  rw [HE8.out, numsO_yes HV.out]
  exact ⟨_, _, _, rfl, HS9.out, HN9.out⟩

set_option maxRecDepth 100000 in
set_option maxHeartbeats 3200000 in
theorem one_17 (B : Nat) (a : Option Addr) (n c : Nat) (xs : List UInt8) (f : Qf) (w : World) (hd : Sb B w a n c xs) (hf : ∀ w', Below B w w' → Qin w' f) (ht : f.c.t = 17) (hn : n ≤ 10000000) (hn8 : f.n ≤ 1000000) (hB : B ≤ w.heap.size) :
  Calls Try.prog 25 #[.slice a n c, .agg f.cs] w (OneP B a (encO xs f.c) w) := by
 have HD := Lib.hid hd
 have HF := Lib.hid hf
 have HWF := Lib.hid (hf w (Below.refl _ _)).wf
 have HXL := Lib.hid (hf w (Below.refl _ _)).b.1
 have HK0 : Hid (Keeps (fun _ => False) w (w.alloc (.cells f.cs 32 (0, 0)))) := Lib.hid ((Keeps.refl _ w).alloc _)
 have HL1 := Lib.hid (Blk.new w f.cs 32)
 clear hd hf
 have HT := Lib.hid ht
 have e0 : (f.c.t == 0) = false := by simp [ht]
 have e1 : (f.c.t == 1) = false := by simp [ht]
 have e30 : (f.c.t == 30) = false := by simp [ht]
 have e2 : (f.c.t == 2) = false := by simp [ht]
 have e4 : (f.c.t == 4) = false := by simp [ht]
 have e5 : (f.c.t == 5) = false := by simp [ht]
 have e6 : (f.c.t == 6) = false := by simp [ht]
 have e7 : (f.c.t == 7) = false := by simp [ht]
 have e8 : (f.c.t == 8) = false := by simp [ht]
 have e16 : (f.c.t == 16) = false := by simp [ht]
 have e20 : (f.c.t == 20) = false := by simp [ht]
 have e17 : (f.c.t == 17) = true := by simp [ht]
 have HPL := Lib.hid (plan_17 ht)
 clear ht
 unfold Qf.cs at HK0 HL1 ⊢
 have HD1 := Lib.hid (HD.out.same HK0.out)
 go_enter Try.func25, Try.ntmps25
 go_upto_region 1 with fail
 refine wp_named ?_
 intro w1 hw1
 rw [hw1] at HK0 HL1 HD1
 have hs1 : w.heap.size ≤ w1.heap.size := HK0.out.size
 have HFR : Hid (¬ mine B a w.heap.size) := Lib.hid (HD.out.fresh (Nat.le_refl _))
 have HB1 : Hid (Below B w w1) := Lib.hid (Keeps.below (Below.refl B w) HK0.out hB (fun _ h => False.elim h))
 clear hw1
 generalize w.heap.size = fb at *
 have hB1 : B ≤ w1.heap.size := by omega
 have hx8 : IntKind.u64.wrap (f.n : Int) = (f.n : Int) := by rw [IntKind.wrap_u64]; omega
 have q8 : w1.cell? ⟨fb, 8, none⟩ = some (.slice f.a f.n f.cap) := HL1.out.cell 8
 have q0 : w1.cell? ⟨fb, 0, none⟩ = some (.int .u64 f.c.t) := HL1.out.cell 0
 have q1 : w1.cell? ⟨fb, 1, none⟩ = some (.int .u64 f.c.id) := HL1.out.cell 1
 have q4 : w1.cell? ⟨fb, 4, none⟩ = some (.int .u64 f.c.mx) := HL1.out.cell 4
 go_wp2_with fail
 clear q8 q0 q1 q4
 have HU := Lib.hid (Uv.three w1 29 f.c.t f.c.id f.c.mx HWF.out.t HWF.out.id HWF.out.mx)
 refine (fit_any _ 3 3 [f.c.t, f.c.id, f.c.mx] _ HU.out (by omega)).mono ?_
 rintro e w' ⟨rfl, rfl⟩
 have HE8 : Hid (encO xs f.c = numsO xs [f.c.t, f.c.id, f.c.mx]) := Lib.hid (encO_nums (by rw [HT.out]; decide) (by rw [HPL.out, HT.out]))
 cases hv : varsOK [f.c.t, f.c.id, f.c.mx] with
 | false =>
  have HV := Lib.hid hv
  clear hv
  go_wp2_with fail
  go_returns
  refine ⟨(HK0.out.alloc _).to, ?_⟩
  rw [HE8.out, numsO_no HV.out]
  rfl
 | true =>
  have HV := Lib.hid hv
  clear hv
  go_wp2_with fail
  refine (put_new B a n c xs #[.int .u64 f.c.t, .int .u64 f.c.id, .int .u64 f.c.mx] 3 [f.c.t, f.c.id, f.c.mx] w1 HD1.out HU.out (by simp) HV.out (by omega) (by omega) hB1).mono ?_
  rintro e w9 ⟨hk9, a9, n9, c9, rfl, hs9, hn9⟩
  have HK9 := Lib.hid (HK0.out.to.trans hk9)
  have HN9 := Lib.hid (near_to hn9 HK0.out.size)
  have HS9 := Lib.hid hs9
  clear hk9 hn9 hs9
  go_wp2_with fail
  go_returns
  refine ⟨HK9.out, ?_⟩
  rw [HE8.out, numsO_yes HV.out]
  exact ⟨_, _, _, rfl, HS9.out, HN9.out⟩

set_option maxRecDepth 100000 in
set_option maxHeartbeats 3200000 in
theorem one_21 (B : Nat) (a : Option Addr) (n c : Nat) (xs : List UInt8) (f : Qf) (w : World) (hd : Sb B w a n c xs) (hf : ∀ w', Below B w w' → Qin w' f) (ht : f.c.t = 21) (hn : n ≤ 10000000) (hn8 : f.n ≤ 1000000) (hB : B ≤ w.heap.size) :
  Calls Try.prog 25 #[.slice a n c, .agg f.cs] w (OneP B a (encO xs f.c) w) := by
 have HD := Lib.hid hd
 have HF := Lib.hid hf
 have HWF := Lib.hid (hf w (Below.refl _ _)).wf
 have HXL := Lib.hid (hf w (Below.refl _ _)).b.1
 have HK0 : Hid (Keeps (fun _ => False) w (w.alloc (.cells f.cs 32 (0, 0)))) := Lib.hid ((Keeps.refl _ w).alloc _)
 have HL1 := Lib.hid (Blk.new w f.cs 32)
 clear hd hf
 have HT := Lib.hid ht
 have e0 : (f.c.t == 0) = false := by simp [ht]
 have e1 : (f.c.t == 1) = false := by simp [ht]
 have e30 : (f.c.t == 30) = false := by simp [ht]
 have e2 : (f.c.t == 2) = false := by simp [ht]
 have e4 : (f.c.t == 4) = false := by simp [ht]
 have e5 : (f.c.t == 5) = false := by simp [ht]
 have e6 : (f.c.t == 6) = false := by simp [ht]
 have e7 : (f.c.t == 7) = false := by simp [ht]
 have e8 : (f.c.t == 8) = false := by simp [ht]
 have e16 : (f.c.t == 16) = false := by simp [ht]
 have e20 : (f.c.t == 20) = false := by simp [ht]
 have e17 : (f.c.t == 17) = false := by simp [ht]
 have e21 : (f.c.t == 21) = true := by simp [ht]
 have HPL := Lib.hid (plan_21 ht)
 clear ht
 unfold Qf.cs at HK0 HL1 ⊢
 have HD1 := Lib.hid (HD.out.same HK0.out)
 go_enter Try.func25, Try.ntmps25
 go_upto_region 1 with fail
 refine wp_named ?_
 intro w1 hw1
 rw [hw1] at HK0 HL1 HD1
 have hs1 : w.heap.size ≤ w1.heap.size := HK0.out.size
 have HFR : Hid (¬ mine B a w.heap.size) := Lib.hid (HD.out.fresh (Nat.le_refl _))
 have HB1 : Hid (Below B w w1) := Lib.hid (Keeps.below (Below.refl B w) HK0.out hB (fun _ h => False.elim h))
 clear hw1
 generalize w.heap.size = fb at *
 have hB1 : B ≤ w1.heap.size := by omega
 have hx8 : IntKind.u64.wrap (f.n : Int) = (f.n : Int) := by rw [IntKind.wrap_u64]; omega
 have q8 : w1.cell? ⟨fb, 8, none⟩ = some (.slice f.a f.n f.cap) := HL1.out.cell 8
 have q0 : w1.cell? ⟨fb, 0, none⟩ = some (.int .u64 f.c.t) := HL1.out.cell 0
 have q1 : w1.cell? ⟨fb, 1, none⟩ = some (.int .u64 f.c.id) := HL1.out.cell 1
 have q4 : w1.cell? ⟨fb, 4, none⟩ = some (.int .u64 f.c.mx) := HL1.out.cell 4
 go_wp2_with fail
 clear q8 q0 q1 q4
 have HU := Lib.hid (Uv.three w1 29 f.c.t f.c.id f.c.mx HWF.out.t HWF.out.id HWF.out.mx)
 refine (fit_any _ 3 3 [f.c.t, f.c.id, f.c.mx] _ HU.out (by omega)).mono ?_
 rintro e w' ⟨rfl, rfl⟩
 have HE8 : Hid (encO xs f.c = numsO xs [f.c.t, f.c.id, f.c.mx]) := Lib.hid (encO_nums (by rw [HT.out]; decide) (by rw [HPL.out, HT.out]))
 cases hv : varsOK [f.c.t, f.c.id, f.c.mx] with
 | false =>
  have HV := Lib.hid hv
  clear hv
  go_wp2_with fail
  go_returns
  refine ⟨(HK0.out.alloc _).to, ?_⟩
  rw [HE8.out, numsO_no HV.out]
  rfl
 | true =>
  have HV := Lib.hid hv
  clear hv
  go_wp2_with fail
  refine (put_new B a n c xs #[.int .u64 f.c.t, .int .u64 f.c.id, .int .u64 f.c.mx] 3 [f.c.t, f.c.id, f.c.mx] w1 HD1.out HU.out (by simp) HV.out (by omega) (by omega) hB1).mono ?_
  rintro e w9 ⟨hk9, a9, n9, c9, rfl, hs9, hn9⟩
  have HK9 := Lib.hid (HK0.out.to.trans hk9)
  have HN9 := Lib.hid (near_to hn9 HK0.out.size)
  have HS9 := Lib.hid hs9
  clear hk9 hn9 hs9
  go_wp2_with fail
  go_returns
  refine ⟨HK9.out, ?_⟩
  rw [HE8.out, numsO_yes HV.out]
  exact ⟨_, _, _, rfl, HS9.out, HN9.out⟩

set_option maxRecDepth 100000 in
set_option maxHeartbeats 3200000 in
theorem one_25 (B : Nat) (a : Option Addr) (n c : Nat) (xs : List UInt8) (f : Qf) (w : World) (hd : Sb B w a n c xs) (hf : ∀ w', Below B w w' → Qin w' f) (ht : f.c.t = 25) (hn : n ≤ 10000000) (hn8 : f.n ≤ 1000000) (hB : B ≤ w.heap.size) :
  Calls Try.prog 25 #[.slice a n c, .agg f.cs] w (OneP B a (encO xs f.c) w) := by
 have HD := Lib.hid hd
 have HF := Lib.hid hf
 have HWF := Lib.hid (hf w (Below.refl _ _)).wf
 have HXL := Lib.hid (hf w (Below.refl _ _)).b.1
 have HK0 : Hid (Keeps (fun _ => False) w (w.alloc (.cells f.cs 32 (0, 0)))) := Lib.hid ((Keeps.refl _ w).alloc _)
 have HL1 := Lib.hid (Blk.new w f.cs 32)
 clear hd hf
 have HT := Lib.hid ht
 have e0 : (f.c.t == 0) = false := by simp [ht]
 have e1 : (f.c.t == 1) = false := by simp [ht]
 have e30 : (f.c.t == 30) = false := by simp [ht]
 have e2 : (f.c.t == 2) = false := by simp [ht]
 have e4 : (f.c.t == 4) = false := by simp [ht]
 have e5 : (f.c.t == 5) = false := by simp [ht]
 have e6 : (f.c.t == 6) = false := by simp [ht]
 have e7 : (f.c.t == 7) = false := by simp [ht]
 have e8 : (f.c.t == 8) = false := by simp [ht]
 have e16 : (f.c.t == 16) = false := by simp [ht]
 have e20 : (f.c.t == 20) = false := by simp [ht]
 have e17 : (f.c.t == 17) = false := by simp [ht]
 have e21 : (f.c.t == 21) = false := by simp [ht]
 have e18 : (f.c.t == 18) = false := by simp [ht]
 have e22 : (f.c.t == 22) = false := by simp [ht]
 have e24 : (f.c.t == 24) = false := by simp [ht]
 have e25 : (f.c.t == 25) = true := by simp [ht]
 have HPL := Lib.hid (plan_25 ht)
 clear ht
 unfold Qf.cs at HK0 HL1 ⊢
 have HD1 := Lib.hid (HD.out.same HK0.out)
 go_enter Try.func25, Try.ntmps25
 go_upto_region 1 with fail
 refine wp_named ?_
 intro w1 hw1
 rw [hw1] at HK0 HL1 HD1
 have hs1 : w.heap.size ≤ w1.heap.size := HK0.out.size
 have HFR : Hid (¬ mine B a w.heap.size) := Lib.hid (HD.out.fresh (Nat.le_refl _))
 have HB1 : Hid (Below B w w1) := Lib.hid (Keeps.below (Below.refl B w) HK0.out hB (fun _ h => False.elim h))
 clear hw1
 generalize w.heap.size = fb at *
 have hB1 : B ≤ w1.heap.size := by omega
 have hx8 : IntKind.u64.wrap (f.n : Int) = (f.n : Int) := by rw [IntKind.wrap_u64]; omega
 have q8 : w1.cell? ⟨fb, 8, none⟩ = some (.slice f.a f.n f.cap) := HL1.out.cell 8
 have q0 : w1.cell? ⟨fb, 0, none⟩ = some (.int .u64 f.c.t) := HL1.out.cell 0
 have q1 : w1.cell? ⟨fb, 1, none⟩ = some (.int .u64 f.c.id) := HL1.out.cell 1
 go_wp2_with fail
 clear q8 q0 q1
 have HU := Lib.hid (Uv.two' w1 29 f.c.t f.c.id HWF.out.t HWF.out.id)
 refine (fit_any _ 2 2 [f.c.t, f.c.id] _ HU.out (by omega)).mono ?_
 rintro e w' ⟨rfl, rfl⟩
 have HE8 : Hid (encO xs f.c = numsO xs [f.c.t, f.c.id]) := Lib.hid (encO_nums (by rw [HT.out]; decide) (by rw [HPL.out, HT.out]))
 cases hv : varsOK [f.c.t, f.c.id] with
 | false =>
  have HV := Lib.hid hv
  clear hv
  go_wp2_with fail
  go_returns
  refine ⟨(HK0.out.alloc _).to, ?_⟩
  rw [HE8.out, numsO_no HV.out]
  rfl
 | true =>
  have HV := Lib.hid hv
  clear hv
  go_wp2_with fail
  refine (put_new B a n c xs #[.int .u64 f.c.t, .int .u64 f.c.id] 2 [f.c.t, f.c.id] w1 HD1.out HU.out (by simp) HV.out (by omega) (by omega) hB1).mono ?_
  rintro e w9 ⟨hk9, a9, n9, c9, rfl, hs9, hn9⟩
  have HK9 := Lib.hid (HK0.out.to.trans hk9)
  have HN9 := Lib.hid (near_to hn9 HK0.out.size)
  have HS9 := Lib.hid hs9
  clear hk9 hn9 hs9
  go_wp2_with fail
  go_returns
  refine ⟨HK9.out, ?_⟩
  rw [HE8.out, numsO_yes HV.out]
  exact ⟨_, _, _, rfl, HS9.out, HN9.out⟩

set_option maxRecDepth 100000 in
set_option maxHeartbeats 3200000 in
theorem one_no (B : Nat) (a : Option Addr) (n c : Nat) (xs : List UInt8) (f : Qf) (w : World) (hd : Sb B w a n c xs) (hf : ∀ w', Below B w w' → Qin w' f) (ht0 : f.c.t ≠ 0) (ht : f.c.t ∉ typesQ) (hn : n ≤ 10000000) (hn8 : f.n ≤ 1000000) (hB : B ≤ w.heap.size) :
  Calls Try.prog 25 #[.slice a n c, .agg f.cs] w (OneP B a (encO xs f.c) w) := by
 have HD := Lib.hid hd
 have HF := Lib.hid hf
 have HWF := Lib.hid (hf w (Below.refl _ _)).wf
 have HXL := Lib.hid (hf w (Below.refl _ _)).b.1
 have HK0 : Hid (Keeps (fun _ => False) w (w.alloc (.cells f.cs 32 (0, 0)))) := Lib.hid ((Keeps.refl _ w).alloc _)
 have HL1 := Lib.hid (Blk.new w f.cs 32)
 clear hd hf
 have HT0 := Lib.hid ht0
 have HPL := Lib.hid (plan_no ht)
 have e0 : (f.c.t == 0) = false := by simpa using ht0
 have e1 : (f.c.t == 1) = false := by have h : f.c.t ≠ 1 := fun e => ht (by rw [e]; decide); simpa using h
 have e30 : (f.c.t == 30) = false := by have h : f.c.t ≠ 30 := fun e => ht (by rw [e]; decide); simpa using h
 have e2 : (f.c.t == 2) = false := by have h : f.c.t ≠ 2 := fun e => ht (by rw [e]; decide); simpa using h
 have e4 : (f.c.t == 4) = false := by have h : f.c.t ≠ 4 := fun e => ht (by rw [e]; decide); simpa using h
 have e5 : (f.c.t == 5) = false := by have h : f.c.t ≠ 5 := fun e => ht (by rw [e]; decide); simpa using h
 have e6 : (f.c.t == 6) = false := by have h : f.c.t ≠ 6 := fun e => ht (by rw [e]; decide); simpa using h
 have e7 : (f.c.t == 7) = false := by have h : f.c.t ≠ 7 := fun e => ht (by rw [e]; decide); simpa using h
 have e8 : (f.c.t == 8) = false := by have h : f.c.t ≠ 8 := fun e => ht (by rw [e]; decide); simpa using h
 have e16 : (f.c.t == 16) = false := by have h : f.c.t ≠ 16 := fun e => ht (by rw [e]; decide); simpa using h
 have e20 : (f.c.t == 20) = false := by have h : f.c.t ≠ 20 := fun e => ht (by rw [e]; decide); simpa using h
 have e17 : (f.c.t == 17) = false := by have h : f.c.t ≠ 17 := fun e => ht (by rw [e]; decide); simpa using h
 have e21 : (f.c.t == 21) = false := by have h : f.c.t ≠ 21 := fun e => ht (by rw [e]; decide); simpa using h
 have e18 : (f.c.t == 18) = false := by have h : f.c.t ≠ 18 := fun e => ht (by rw [e]; decide); simpa using h
 have e22 : (f.c.t == 22) = false := by have h : f.c.t ≠ 22 := fun e => ht (by rw [e]; decide); simpa using h
 have e24 : (f.c.t == 24) = false := by have h : f.c.t ≠ 24 := fun e => ht (by rw [e]; decide); simpa using h
 have e25 : (f.c.t == 25) = false := by have h : f.c.t ≠ 25 := fun e => ht (by rw [e]; decide); simpa using h
 have e26 : (f.c.t == 26) = false := by have h : f.c.t ≠ 26 := fun e => ht (by rw [e]; decide); simpa using h
 have e27 : (f.c.t == 27) = false := by have h : f.c.t ≠ 27 := fun e => ht (by rw [e]; decide); simpa using h
 have e28 : (f.c.t == 28) = false := by have h : f.c.t ≠ 28 := fun e => ht (by rw [e]; decide); simpa using h
 clear ht ht0
 unfold Qf.cs at HK0 HL1 ⊢
 have HD1 := Lib.hid (HD.out.same HK0.out)
 go_enter Try.func25, Try.ntmps25
 go_upto_region 1 with fail
 refine wp_named ?_
 intro w1 hw1
 rw [hw1] at HK0 HL1 HD1
 have hs1 : w.heap.size ≤ w1.heap.size := HK0.out.size
 have HFR : Hid (¬ mine B a w.heap.size) := Lib.hid (HD.out.fresh (Nat.le_refl _))
 have HB1 : Hid (Below B w w1) := Lib.hid (Keeps.below (Below.refl B w) HK0.out hB (fun _ h => False.elim h))
 clear hw1
 generalize w.heap.size = fb at *
 have hB1 : B ≤ w1.heap.size := by omega
 have hx8 : IntKind.u64.wrap (f.n : Int) = (f.n : Int) := by rw [IntKind.wrap_u64]; omega
 have q8 : w1.cell? ⟨fb, 8, none⟩ = some (.slice f.a f.n f.cap) := HL1.out.cell 8
 have q0 : w1.cell? ⟨fb, 0, none⟩ = some (.int .u64 f.c.t) := HL1.out.cell 0
 go_wp2_with fail
 go_returns
 refine ⟨HK0.out.to, ?_⟩
 rw [encO_no HT0.out HPL.out]
 rfl

set_option maxRecDepth 100000 in
set_option maxHeartbeats 3200000 in
theorem one_0 (B : Nat) (a : Option Addr) (n c : Nat) (xs : List UInt8) (f : Qf) (w : World) (hd : Sb B w a n c xs) (hf : ∀ w', Below B w w' → Qin w' f) (ht : f.c.t = 0) (hN : f.c.N ≤ 100000) (hn : n ≤ 10000000) (hn8 : f.n ≤ 1000000) (hB : B ≤ w.heap.size) :
  Calls Try.prog 25 #[.slice a n c, .agg f.cs] w (OneP B a (encO xs f.c) w) := by
 have HD := Lib.hid hd
 have HF := Lib.hid hf
 have HWF := Lib.hid (hf w (Below.refl _ _)).wf
 have HXL := Lib.hid (hf w (Below.refl _ _)).b.1
 have HK0 : Hid (Keeps (fun _ => False) w (w.alloc (.cells f.cs 32 (0, 0)))) := Lib.hid ((Keeps.refl _ w).alloc _)
 have HL1 := Lib.hid (Blk.new w f.cs 32)
 clear hd hf
 have HT := Lib.hid ht
 have e0 : (f.c.t == 0) = true := by simp [ht]
 clear ht
 unfold Qf.cs at HK0 HL1 ⊢
 have HD1 := Lib.hid (HD.out.same HK0.out)
 go_enter Try.func25, Try.ntmps25
 go_upto_region 1 with fail
 refine wp_named ?_
 intro w1 hw1
 rw [hw1] at HK0 HL1 HD1
 have hs1 : w.heap.size ≤ w1.heap.size := HK0.out.size
 have HFR : Hid (¬ mine B a w.heap.size) := Lib.hid (HD.out.fresh (Nat.le_refl _))
 have HB1 : Hid (Below B w w1) := Lib.hid (Keeps.below (Below.refl B w) HK0.out hB (fun _ h => False.elim h))
 clear hw1
 generalize w.heap.size = fb at *
 have hB1 : B ≤ w1.heap.size := by omega
 have hx8 : IntKind.u64.wrap (f.n : Int) = (f.n : Int) := by rw [IntKind.wrap_u64]; omega
 have q8 : w1.cell? ⟨fb, 8, none⟩ = some (.slice f.a f.n f.cap) := HL1.out.cell 8
 have q0 : w1.cell? ⟨fb, 0, none⟩ = some (.int .u64 f.c.t) := HL1.out.cell 0
 have q11 : w1.cell? ⟨fb, 11, none⟩ = some (.int .i64 f.c.N) := HL1.out.cell 11
 by_cases hlt : f.c.N < 1
 ·have HE8 : Hid (encO xs f.c = some (xs ++ List.replicate 1 0)) := Lib.hid (by unfold encO encQ; rw [if_pos HT.out, if_pos hlt]; rfl)
  go_wp2_with (at_builtin; refine halt ?_)
  refine Halted.go (wpList_app0 w1 rfl _ _ rfl B a n c xs rfl HD1.out.1 1 (by omega) rfl (by omega) hB1 ?_)
  intro a9 c9 w9 ho9 hk9 hn9
  have HK9 := Lib.hid (HK0.out.to.trans hk9)
  have HN9 := Lib.hid (near_to hn9 HK0.out.size)
  have HS9 := Lib.hid ho9.sb
  clear hk9 hn9 ho9
  go_wp2_with fail
  go_returns
  refine ⟨HK9.out, ?_⟩
  rw [HE8.out]
  exact ⟨_, _, _, rfl, HS9.out, HN9.out⟩
 ·obtain ⟨m, hm⟩ : ∃ m : Nat, f.c.N = (m : Int) := ⟨f.c.N.toNat, by omega⟩
  have HE8 : Hid (encO xs f.c = some (xs ++ List.replicate m 0)) := Lib.hid (by unfold encO encQ; rw [if_pos HT.out, if_neg hlt, hm]; rfl)
  rw [hm] at q11 hlt hN
  go_wp2_with (at_builtin; refine halt ?_)
  refine Halted.go (wpList_app0 w1 rfl _ _ rfl B a n c xs rfl HD1.out.1 m (by omega) rfl (by omega) hB1 ?_)
  intro a9 c9 w9 ho9 hk9 hn9
  have HK9 := Lib.hid (HK0.out.to.trans hk9)
  have HN9 := Lib.hid (near_to hn9 HK0.out.size)
  have HS9 := Lib.hid ho9.sb
  clear hk9 hn9 ho9
  go_wp2_with fail
  go_returns
  refine ⟨HK9.out, ?_⟩
  rw [HE8.out]
  exact ⟨_, _, _, rfl, HS9.out, HN9.out⟩

end Go.Proofs.Ytgfkgmmigbpciaa

/- Laws for the reference's writer: append in a drawn region, rows of numbers of one's own. -/
namespace Go.Proofs.Ytgfkgmmigbpciaa
set_option linter.unusedSimpArgs false
set_option linter.unusedVariables false
open Go.RowKit Go.Deep

section
variable {ops : Array Oper} {Q : Exit → Act → World → Prop} {md : Region.Mode} {S : World → Prop}
theorem held_bd {i : Nat} {o : Oper} {fuel : Nat} {listed : Array Bool} {ac : Act} {w : World} (ho : ops[i]? = some o) (hr : Region.ready md ops listed = [i]) (hw : Region.wanted o (yielded ops ac.tmps) = true)
  (s x : Operand) (hop : o.op = Op.call { callee := Callee.builtin Builtin.append, args := #[s, x], argTypes := #[22, 22] }) (base : Nat)
  (a : Option Addr) (n cap : Nat) (xs : List UInt8) (hs : ac.eval s = .slice a n cap) (hd : Sb base w a n cap xs) (a1 : Option Addr) (m c1 : Nat) (ys : List UInt8) (hx : ac.eval x = .slice a1 m c1) (hy : By w a1 m c1 ys)
  (b1 : n + m ≤ 140737488355328) (hb : base ≤ w.heap.size)
  (hK : ∀ a' cap' w', Sb base w' a' (n + m) cap' (xs ++ ys) → Keeps (mine base a) w w' → Near base w a a' →
    S w' ∧ wpAnyH Try.prog md ops Q S fuel (listed.setIfInBounds i true) (ac.put o.dst (.slice a' (n + m) cap')) w') : wpAnyH Try.prog md ops Q S (fuel + 1) listed ac w := by
 obtain ⟨inf, hi, hz, hs1, hs2⟩ := info_parts info8
 have hm : m = ys.length := hy.1
 refine held_app ho hr hw s x 22 22 hop base 5 inf _ 1 1 Try.underlying22 hi hz hs1 hs2 rfl a n cap (Bs xs) hs hd.1.2 (.slice a1 m c1) hx m (Bs ys) (hy.2.src Try.underlying22 (Bs_one ys)) (by simp only [maxLen]; omega) (by omega) hb ?_
 intro a' cap' w' _ hk hn h1 h2
 refine hK a' cap' w' ?_ hk hn
 by_cases h0 : m = 0
 ·obtain ⟨rfl, rfl, rfl⟩ := h2 h0
  obtain rfl : ys = [] := List.eq_nil_of_length_eq_zero (by omega)
  subst h0
  simpa using hd
 ·have h := h1 (by omega)
  rw [Bs_append] at h
  exact Bo.sb ⟨by rw [List.length_append, ← hd.1.1, hm], h⟩
end

/-- A row of numbers of one's own. -/
def Uo (L : Nat) (w : World) (a : Option Addr) (n cap : Nat) (vs : List Int) : Prop := n = vs.length ∧ w.ownsRow L 29 1 (.slice a n cap) n (Us vs)
theorem info64 : (Try.prog.info? 29).map (fun i => (i.zero, i.size, i.bytes)) = some (some (.int .u64 0), 1, 8) := by kernel_rfl
theorem Us_one (vs : List Int) : ∀ u ∈ Us vs, u.oneCell' = true := by
 intro u hu
 unfold Us at hu
 obtain ⟨v, _, rfl⟩ := List.mem_map.1 hu
 rfl
theorem Us_append (vs us : List Int) : Us vs ++ Us us = Us (vs ++ us) := by simp [Us]
theorem Uo.new {L : Nat} {w : World} {cs : Array Value} {k : Nat} {vs : List Int} (hc : cs = (Us vs).toArray) (hk : k = vs.length) (h1 : k ≤ 1000) (hL : L ≤ w.heap.size) : Uo L (w.alloc (.cells cs 29 (0, 0))) (some ⟨w.heap.size, 0, none⟩) k k vs := by
 subst hc hk
 refine ⟨rfl, by simp [Us], .inr ⟨w.heap.size, vs.length, (Us vs).toArray, rfl, hL, heap_alloc_new w _, Nat.le_refl _, by simp only [maxLen]; omega, by simp [Us], ?_⟩⟩
 simp only [Us, Nat.mul_one]
 exact List.take_of_length_le (by simp)
theorem Uo.uv {L : Nat} {w : World} {a : Option Addr} {n cap : Nat} {vs : List Int} (h : Uo L w a n cap vs) (hv : ∀ v ∈ vs, inU v) : Uv w a n cap vs := ⟨h.1, own_vw h.2, hv⟩
theorem Uo.keep {L : Nat} {w w' : World} {S : Nat → Prop} {a : Option Addr} {n cap : Nat} {vs : List Int} (h : Uo L w a n cap vs) (k : Keeps S w w') (hs : ∀ b, a.map (·.block) = some b → ¬ S b) : Uo L w' a n cap vs := ⟨h.1, own_keep h.2 k hs⟩
theorem Uo.ge {L : Nat} {w : World} {a : Option Addr} {n cap : Nat} {vs : List Int} (h : Uo L w a n cap vs) : ∀ b, a.map (·.block) = some b → L ≤ b ∧ b < w.heap.size := by
 intro b hb
 refine h.2.lt b ?_
 cases a with
 | none => cases hb
 | some a => simpa [Value.ownBlock] using hb
theorem Uo.row {L : Nat} {w : World} {a : Option Addr} {n cap : Nat} {vs : List Int} (h : Uo L w a n cap vs) (hn : 0 < n) :
  ∃ g, a = some ⟨g, 0, none⟩ ∧ L ≤ g ∧ g < w.heap.size ∧ ∀ i, w.frozen? ⟨g, i, none⟩ = false := by
 obtain ⟨hl, h1, h2⟩ := h
 rcases h2 with ⟨hv, h0⟩ | ⟨g, cap', cur, hv, hg, hb, hnc, hcm, hs, ht⟩
 ·omega
 ·cases hv
  have ho : w.ownsRow L 29 1 (.slice (some ⟨g, 0, none⟩) n cap) n (Us vs) := ⟨h1, .inr ⟨g, cap, cur, rfl, hg, hb, hnc, hcm, hs, ht⟩⟩
  exact ⟨g, rfl, hg, lt_of_block hb, fun i => ho.frozenAt i⟩
theorem Uo.set {L : Nat} {w : World} {g n cap : Nat} {vs : List Int} (h : Uo L w (some ⟨g, 0, none⟩) n cap vs) (i : Nat) (x : Int) :
  Uo L (w.setCell ⟨g, i, none⟩ (.int .u64 x)) (some ⟨g, 0, none⟩) n cap (vs.set i x) := by
 obtain ⟨hl, ho⟩ := h
 refine ⟨by simp; exact hl, ?_⟩
 have := (ho.stored i (.int .u64 x)).1
 rwa [show Us (vs.set i x) = (Us vs).set i (.int .u64 x) by simp [Us, List.map_set]]

/-- append on a row of numbers of one's own. -/
theorem wpList_uo (w : World) {ops : Array Oper} {rest : List Oper} {o : Oper} {ac : Act} {Q : Exit → Act → World → Prop} (hg : o.guard = none) (s x : Operand)
  (hop : o.op = Op.call { callee := Callee.builtin Builtin.append, args := #[s, x], argTypes := #[57, 57] }) (L : Nat)
  (a : Option Addr) (n cap : Nat) (vs : List Int) (hs : ac.eval s = .slice a n cap) (hd : Uo L w a n cap vs) (a1 : Option Addr) (m c1 : Nat) (us : List Int) (hx : ac.eval x = .slice a1 m c1) (hy : Uv w a1 m c1 us) (h0 : 0 < m)
  (b1 : n + m ≤ 1000000000) (hb : L ≤ w.heap.size)
  (hK : ∀ a' cap' w', Uo L w' a' (n + m) cap' (vs ++ us) → Keeps (mine L a) w w' → Near L w a a' → wpList Try.prog ops Q rest (ac.put o.dst (.slice a' (n + m) cap')) w') : wpList Try.prog ops Q (o :: rest) ac w := by
 obtain ⟨inf, hi, hz, hs1, hs2⟩ := info_parts info64
 have hm : m = us.length := hy.1
 refine wpList_app w hg s x 57 57 hop L 29 inf _ 1 8 Try.underlying57 hi hz hs1 hs2 rfl a n cap (Us vs) hs (.inl hd.2) (.slice a1 m c1) hx m (Us us) (hy.2.1.src Try.underlying57 (Us_one us)) (by simp only [maxLen]; omega) (by omega) hb ?_
 intro a' cap' w' _ hk hn h1 _
 have h := h1 h0
 rw [Us_append] at h
 exact hK a' cap' w' ⟨by rw [List.length_append, ← hd.1, hm], h⟩ hk hn
section
variable {ops : Array Oper} {Q : Exit → Act → World → Prop} {md : Region.Mode} {S : World → Prop}
theorem held_uo {i : Nat} {o : Oper} {fuel : Nat} {listed : Array Bool} {ac : Act} {w : World} (ho : ops[i]? = some o) (hr : Region.ready md ops listed = [i]) (hw : Region.wanted o (yielded ops ac.tmps) = true)
  (s x : Operand) (hop : o.op = Op.call { callee := Callee.builtin Builtin.append, args := #[s, x], argTypes := #[57, 57] }) (L : Nat)
  (a : Option Addr) (n cap : Nat) (vs : List Int) (hs : ac.eval s = .slice a n cap) (hd : Uo L w a n cap vs) (a1 : Option Addr) (m c1 : Nat) (us : List Int) (hx : ac.eval x = .slice a1 m c1) (hy : Uv w a1 m c1 us) (h0 : 0 < m)
  (b1 : n + m ≤ 1000000000) (hb : L ≤ w.heap.size)
  (hK : ∀ a' cap' w', Uo L w' a' (n + m) cap' (vs ++ us) → Keeps (mine L a) w w' → Near L w a a' →
    S w' ∧ wpAnyH Try.prog md ops Q S fuel (listed.setIfInBounds i true) (ac.put o.dst (.slice a' (n + m) cap')) w') : wpAnyH Try.prog md ops Q S (fuel + 1) listed ac w := by
 obtain ⟨inf, hi, hz, hs1, hs2⟩ := info_parts info64
 have hm : m = us.length := hy.1
 refine held_app ho hr hw s x 57 57 hop L 29 inf _ 1 8 Try.underlying57 hi hz hs1 hs2 rfl a n cap (Us vs) hs (.inl hd.2) (.slice a1 m c1) hx m (Us us) (hy.2.1.src Try.underlying57 (Us_one us)) (by simp only [maxLen]; omega) (by omega) hb ?_
 intro a' cap' w' _ hk hn h1 _
 have h := h1 h0
 rw [Us_append] at h
 exact hK a' cap' w' ⟨by rw [List.length_append, ← hd.1, hm], h⟩ hk hn
end
/-- append outside of a drawn region, to bytes that lie where something stands. -/
theorem wpList_bd (w : World) {ops : Array Oper} {rest : List Oper} {o : Oper} {ac : Act} {Q : Exit → Act → World → Prop} (hg : o.guard = none) (s x : Operand)
  (hop : o.op = Op.call { callee := Callee.builtin Builtin.append, args := #[s, x], argTypes := #[22, 22] }) (base : Nat)
  (a : Option Addr) (n cap : Nat) (xs : List UInt8) (hs : ac.eval s = .slice a n cap) (hd : Sb base w a n cap xs) (a1 : Option Addr) (m c1 : Nat) (ys : List UInt8) (hx : ac.eval x = .slice a1 m c1) (hy : By w a1 m c1 ys)
  (b1 : n + m ≤ 140737488355328) (hb : base ≤ w.heap.size)
  (hK : ∀ a' cap' w', Sb base w' a' (n + m) cap' (xs ++ ys) → Keeps (mine base a) w w' → Near base w a a' → wpList Try.prog ops Q rest (ac.put o.dst (.slice a' (n + m) cap')) w') : wpList Try.prog ops Q (o :: rest) ac w := by
 obtain ⟨inf, hi, hz, hs1, hs2⟩ := info_parts info8
 have hm : m = ys.length := hy.1
 refine wpList_app w hg s x 22 22 hop base 5 inf _ 1 1 Try.underlying22 hi hz hs1 hs2 rfl a n cap (Bs xs) hs hd.1.2 (.slice a1 m c1) hx m (Bs ys) (hy.2.src Try.underlying22 (Bs_one ys)) (by simp only [maxLen]; omega) (by omega) hb ?_
 intro a' cap' w' _ hk hn h1 h2
 refine hK a' cap' w' ?_ hk hn
 by_cases h0 : m = 0
 ·obtain ⟨rfl, rfl, rfl⟩ := h2 h0
  obtain rfl : ys = [] := List.eq_nil_of_length_eq_zero (by omega)
  subst h0
  simpa using hd
 ·have h := h1 (by omega)
  rw [Bs_append] at h
  exact Bo.sb ⟨by rw [List.length_append, ← hd.1.1, hm], h⟩

end Go.Proofs.Ytgfkgmmigbpciaa
