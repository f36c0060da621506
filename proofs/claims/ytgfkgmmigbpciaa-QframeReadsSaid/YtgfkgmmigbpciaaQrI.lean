import Derived.Test.YtgfkgmmigbpciaaQrG
import Derived.Test.YtgfkgmmigbpciaaQrA
import Derived.Test.YtgfkgmmigbpciaaQfJ
import Derived.Test.YtgfkgmmigbpciaaQfT
import Derived.Lib.SlBytesConst
/- Read and All of the package qframe. -/
namespace Go.Proofs.Ytgfkgmmigbpciaa
set_option linter.unusedSimpArgs false
set_option linter.unusedVariables false
open Go.RowKit Go.Deep

theorem own_monoQ {base base' : Nat} {w : World} {e : TypeId} {size : Nat} {a : Option Addr} {n cap : Nat} {cs : List Value} (h : w.ownsRow base e size (.slice a n cap) n cs) (hb : base' ≤ base) : w.ownsRow base' e size (.slice a n cap) n cs := by
 refine ⟨h.1, Or.imp id ?_ h.2⟩
 rintro ⟨g, cap', cur, hv, hg, rest⟩
 exact ⟨g, cap', cur, hv, Nat.le_trans hb hg, rest⟩

/-- What Read's closure has done. -/
def Rd1P (rb pf : Nat) (a : Option Addr) (m cap : Nat) (xs : List UInt8) (r : Option (Qc × List UInt8)) (w : World) (e : Ending) (w' : World) : Prop :=
 Keeps (fun k => k = rb ∨ k = pf) w w' ∧ match r with
  | some x => e = .returned (.tuple #[]) ∧ ∃ (f : Qf) (p : Nat), f.c = x.1 ∧ Blk w' pf f.cs 32 ∧ Qn w.heap.size w' f ∧ Re w' rb a m cap xs p x.2
  | none => e = .panicked [{ v := stopV, recovered := false }]
set_option maxRecDepth 100000 in
set_option maxHeartbeats 3200000 in
theorem read1_any (rb pr pf : Nat) (a : Option Addr) (m cap : Nat) (xs : List UInt8) (p : Nat) (ys : List UInt8) (w : World) (hr : Re w rb a m cap xs p ys) (hlt : ∀ b, a.map (·.block) = some b → b < w.heap.size) (hp : Blk w pr #[.pointer (some ⟨rb, 0, none⟩)] 66) (hf : Blk w pf #[.int .u64 0, .int .u64 0, .int .u64 0, .bool false, .int .u64 0, .int .u64 0, .int .u64 0, .slice none 0 0, .slice none 0 0, .bool false, .bool false, .int .i64 0] 32)
  (h1 : pf ≠ rb) (h2 : ∀ b, a.map (·.block) = some b → b ≠ pf) :
  Calls Try.prog 29 #[.pointer (some ⟨pr, 0, none⟩), .pointer (some ⟨pf, 0, none⟩)] w (Rd1P rb pf a m cap xs (decQ ys) w) := by
 have HR := Lib.hid hr
 have HLT := Lib.hid hlt
 have HF := Lib.hid hf
 have H1 := Lib.hid h1
 have H2 := Lib.hid h2
 have c0 : w.cell? ⟨pr, 0, none⟩ = some (.pointer (some ⟨rb, 0, none⟩)) := hp.cell 0
 clear hr hlt hf h1 h2 hp
 go_enter Try.func29, Try.ntmps29
 go_wp2_with fail
 refine (rframe_any rb a m cap xs p ys w HR.out HLT.out).mono ?_
 rintro e w1 ⟨hk, hr⟩
 have HK1 := Lib.hid hk
 have HF1 := Lib.hid (hk.blk HF.out H1.out)
 have HPF : Hid (pf < w.heap.size) := Lib.hid HF.out.lt
 clear hk c0
 cases hq : decQ ys with
 | none =>
  rw [hq] at hr
  have hr' : e = .panicked [{ v := stopV, recovered := false }] := hr
  subst hr'
  have HD := Lib.hid hq
  clear hr hq
  go_wp2_with fail
  refine ⟨rfl, ?_⟩
  try rw [HD.out]
  exact ⟨HK1.out.mono (fun _ _ h => .inl h), rfl⟩
 | some x =>
  obtain ⟨c, y⟩ := x
  rw [hq] at hr
  obtain ⟨p1, val, rfl, ⟨f, hfc, rfl, hqn⟩, hr⟩ := hr
  have HD := Lib.hid hq
  have HFC := Lib.hid hfc
  have HQN := Lib.hid hqn
  have HR1 := Lib.hid hr
  clear hr hq hqn hfc
  obtain ⟨t0, t1, t2, t3, t4, t5, t6, t7, t8, t9, t10, t11⟩ := q12_cells HF1.out
  obtain ⟨z0, z1, z2, z3, z4, z5, z6, z7, z8, z9, z10, z11⟩ := q12_free HF1.out
  unfold Qf.cs
  go_wp2_with fail
  go_end0
  have HKF := qs_keep (b := pf) (S := fun k => k = pf) (Keeps.refl _ w1) (fun _ => rfl) (.int .u64 f.c.t) (.int .u64 f.c.id) (.int .u64 f.c.off) (.bool f.c.fin) (.int .u64 f.c.mx) (.int .u64 f.c.code) (.int .u64 f.c.delay) (.slice f.ra f.rn f.rc) (.slice f.a f.n f.cap) (.bool f.c.uni) (.bool f.c.app) (.int .i64 f.c.N)
  try rw [HD.out]
  refine ⟨(HK1.out.mono (fun _ _ h => Or.inl h)).trans (HKF.mono (fun _ _ h => Or.inr h)), rfl, f, p1, HFC.out, qs_blk HF1.out _ _ _ _ _ _ _ _ _ _ _ _, HQN.out.keep HKF (fun b hb h => by have h1 := HPF.out; omega), HR1.out.keep HKF (fun h => H1.out h.symm) (fun b hb h => H2.out b hb h)⟩

/-- What was tried by Read. -/
def RdR (rb pf : Nat) (a : Option Addr) (m cap : Nat) (xs : List UInt8) (r : Option (Qc × List UInt8)) (w8 : World) (ok : Bool) (w' : World) : Prop :=
 Keeps (fun k => k = rb ∨ k = pf) w8 w' ∧ match r with
  | some x => ok = true ∧ ∃ (f : Qf) (p : Nat), f.c = x.1 ∧ Blk w' pf f.cs 32 ∧ Qn w8.heap.size w' f ∧ Re w' rb a m cap xs p x.2
  | none => ok = false
theorem rd_tried {rb pf n : Nat} {a : Option Addr} {m cap : Nat} {xs : List UInt8} {r : Option (Qc × List UInt8)} {w8 : World} {e : Ending} {w' : World} (h : Rd1P rb pf a m cap xs r w8 e w') (hb : Blk w8 n #[.bool false] 4) (h1 : n ≠ rb) (h2 : n ≠ pf) : TriedP n (RdR rb pf a m cap xs r w8) e w' := by
 obtain ⟨h3, h4⟩ := h
 refine ⟨h3.blk hb (fun h => h.elim h1 h2), ?_⟩
 cases r with
 | none => exact .inr ⟨h4, h3, rfl⟩
 | some zs => exact .inl ⟨h4.1, h3, rfl, h4.2⟩
theorem qread_results (fr : Array Value) (w : World) (b : Nat) (v3 v4 : Value) {u0 u1 u2 u3 u4 u5 u6 u7 u8 u9 u10 u11 : Value} {t : TypeId} (h2 : fr[2]?.getD undef = .pointer (some ⟨b, 0, none⟩)) (h3 : fr[3]?.getD undef = v3) (h4 : fr[4]?.getD undef = v4) (hb : Blk w b #[u0, u1, u2, u3, u4, u5, u6, u7, u8, u9, u10, u11] t) :
  (results Try.f17 fr).run Try.prog w = .ok (.tuple #[.agg #[u0, u1, u2, u3, u4, u5, u6, u7, u8, u9, u10, u11], v3, v4]) w := by
 obtain ⟨s0, s1, s2, s3, s4, s5, s6, s7, s8, s9, s10, s11⟩ := q12_cells hb
 simp [results, Try.results17, go_sem, h2, h3, h4, s0, s1, s2, s3, s4, s5, s6, s7, s8, s9, s10, s11]

set_option maxRecDepth 100000 in
set_option maxHeartbeats 3200000 in
theorem qread_any (a : Option Addr) (m cap : Nat) (xs : List UInt8) (w : World) (hb : By w a m cap xs) (hm : m ≤ 1000000) (hlt : ∀ b, a.map (·.block) = some b → b < w.heap.size) :
  Calls Try.prog 17 #[.slice a m cap] w (ReadP m (decQ xs) w) := by
 have HB := Lib.hid hb
 have HLT := Lib.hid hlt
 have HM := Lib.hid hm
 have hmf : ∀ (fn : Fn) (first cap : Array Value) (w : World), (Instr.makeFunc fn first cap).run Try.prog w = .ok (.func fn first cap) w := fun _ _ _ _ => rfl
 clear hb hlt
 go_enter Try.func17, Try.ntmps17
 go_wp2_with fail
 refine calls_named ?_
 intro w7 hw7
 have HZ7 : Hid (Blk w7 w.heap.size #[.int .u64 0, .int .u64 0, .int .u64 0, .bool false, .int .u64 0, .int .u64 0, .int .u64 0, .slice none 0 0, .slice none 0 0, .bool false, .bool false, .int .i64 0] 32) := Lib.hid (by rw [← hw7]; exact (((Blk.new w _ _).alloc _).alloc _).alloc _)
 have HK7 : Hid (Below w.heap.size w w7) := Lib.hid (by
  rw [← hw7]
  refine ((((Below.refl _ w).alloc (Nat.le_refl _) _).alloc ?_ _).alloc ?_ _).alloc ?_ _ <;> simp <;> omega)
 have HKK : Hid (Keeps (fun _ => False) w w7) := Lib.hid (by rw [← hw7]; exact ((((Keeps.refl _ w).alloc _).alloc _).alloc _).alloc _)
 have HS7 : Hid (w7.heap.size = w.heap.size + 4) := Lib.hid (by rw [← hw7]; simp)
 have HR7 : Hid (Re w7 (w.heap.size + 1) a m cap xs 0 xs) := Lib.hid ⟨HB.out.keep HKK.out (fun _ _ h => h), by
   rw [← hw7]
   have h := Blk.new (w.alloc (.cells #[.int .u64 0, .int .u64 0, .int .u64 0, .bool false, .int .u64 0, .int .u64 0, .int .u64 0, .slice none 0 0, .slice none 0 0, .bool false, .bool false, .int .i64 0] 32 (0, 0))) #[.slice a m cap, .int .i64 0] 68
   rw [World.size_alloc] at h
   exact (h.alloc _).alloc _, Nat.zero_le _, rfl, fun b hb => by have := HLT.out b hb; omega, HM.out⟩
 have HP7 : Hid (Blk w7 (w.heap.size + 1 + 1) #[.pointer (some ⟨w.heap.size + 1, 0, none⟩)] 66) := Lib.hid (by
   rw [← hw7]
   have h := Blk.new ((w.alloc (.cells #[.int .u64 0, .int .u64 0, .int .u64 0, .bool false, .int .u64 0, .int .u64 0, .int .u64 0, .slice none 0 0, .slice none 0 0, .bool false, .bool false, .int .i64 0] 32 (0, 0))).alloc (.cells #[.slice a m cap, .int .i64 0] 68 (0, 0))) #[.pointer (some ⟨w.heap.size + 1, 0, none⟩)] 66
   rw [World.size_alloc, World.size_alloc] at h
   exact h.alloc _)
 have HF7 : Hid (Blk w7 (w.heap.size + 1 + 1 + 1) #[.int .u64 0, .int .u64 0, .int .u64 0, .bool false, .int .u64 0, .int .u64 0, .int .u64 0, .slice none 0 0, .slice none 0 0, .bool false, .bool false, .int .i64 0] 32) := Lib.hid (by
   rw [← hw7]
   have h := Blk.new (((w.alloc (.cells #[.int .u64 0, .int .u64 0, .int .u64 0, .bool false, .int .u64 0, .int .u64 0, .int .u64 0, .slice none 0 0, .slice none 0 0, .bool false, .bool false, .int .i64 0] 32 (0, 0))).alloc (.cells #[.slice a m cap, .int .i64 0] 68 (0, 0))).alloc (.cells #[.pointer (some ⟨w.heap.size + 1, 0, none⟩)] 66 (0, 0))) #[.int .u64 0, .int .u64 0, .int .u64 0, .bool false, .int .u64 0, .int .u64 0, .int .u64 0, .slice none 0 0, .slice none 0 0, .bool false, .bool false, .int .i64 0] 32
   rw [World.size_alloc, World.size_alloc, World.size_alloc] at h
   exact h)
 clear hw7
 have hk8 : Keeps (fun _ => False) w7 (w7.alloc (.cells #[.bool false] 4 (0, 0))) := (Keeps.refl _ w7).alloc _
 have HK8 := Lib.hid hk8
 have HLT7 : Hid (∀ b, a.map (·.block) = some b → b < w.heap.size) := HLT
 refine (try_any 29 _ w7 (RdR (w.heap.size + 1) (w.heap.size + 1 + 1 + 1) a m cap xs (decQ xs) (w7.alloc (.cells #[.bool false] 4 (0, 0)))) (fun _ => rfl)
  ((read1_any (w.heap.size + 1) (w.heap.size + 1 + 1) (w.heap.size + 1 + 1 + 1) a m cap xs 0 xs _ (HR7.out.same hk8) (fun b hb => by have h1 := HLT.out b hb; have h2 := HS7.out; have h3 := hk8.size; omega) (hk8.blk HP7.out (fun h => h)) (hk8.blk HF7.out (fun h => h)) (by omega) (fun b hb => by have h1 := HLT.out b hb; omega)).mono
   (fun e w' h => rd_tried h (Blk.new w7 _ _) (by have h2 := HS7.out; omega) (by have h2 := HS7.out; omega)))).mono ?_
 rintro e w9 ⟨ok, w0, rfl, ⟨hk0, hr⟩, hk9⟩
 have HKA : Hid (Keeps (fun k => w.heap.size + 1 ≤ k) w7 w9) := Lib.hid (((hk8.to.trans (hk0.mono (fun k _ h => by have h2 := HS7.out; omega))).trans (hk9.mono (fun k _ h => by have h2 := HS7.out; omega))))
 have HZ9 := Lib.hid (HKA.out.blk HZ7.out (by omega))
 have HK9 : Hid (Below w.heap.size w w9) := Lib.hid (Keeps.below HK7.out HKA.out HK7.out.size (fun k h => by omega))
 have HP9 := Lib.hid (hk9.blk (hk0.blk (hk8.blk HP7.out (fun h => h)) (by omega)) (by have h2 := HS7.out; omega))
 clear hmf
 cases hq : decQ xs with
 | none =>
  rw [hq] at hr
  have hr' : ok = false := hr
  subst hr'
  have HD := Lib.hid hq
  clear hr hq hk0 hk9 hk8
  obtain ⟨t0, t1, t2, t3, t4, t5, t6, t7, t8, t9, t10, t11⟩ := q12_cells HZ9.out
  obtain ⟨z0, z1, z2, z3, z4, z5, z6, z7, z8, z9, z10, z11⟩ := q12_free HZ9.out
  go_wp2_with fail
  refine bodyPost_ret (v := ?_) ?_ (by kernel_rfl) ?_
  rotate_left
  ·exact qread_results _ _ w.heap.size (.int .i64 0) (.int .i64 30) (by kernel_rfl) (by kernel_rfl) (by kernel_rfl) (qs_blk HZ9.out _ _ _ _ _ _ _ _ _ _ _ _)
  have HBL := Keeps.below HK9.out (qs_keep (b := w.heap.size) (S := fun k => k = w.heap.size) (Keeps.refl _ w9) (fun _ => rfl) (.int .u64 0) (.int .u64 0) (.int .u64 0) (.bool false) (.int .u64 0) (.int .u64 0) (.int .u64 0) (.slice none 0 0) (.slice none 0 0) (.bool false) (.bool false) (.int .i64 0)) HK9.out.size (fun k h => by omega)
  refine ⟨HBL, ?_⟩
  first | rfl | (rw [HD.out]; rfl) | rw [HD.out]
 | some x =>
  obtain ⟨c, y⟩ := x
  rw [hq] at hr
  obtain ⟨rfl, f, p, hfc, hfb, hqn, hre⟩ := hr
  have HD := Lib.hid hq
  have HFC := Lib.hid hfc
  have HQN := Lib.hid (hqn.keep hk9 (fun b h1 h2 => by have h3 := hk8.size; simp at h2; omega))
  have HR9 := Lib.hid (hre.keep hk9 (by have h2 := HS7.out; omega) (fun b hb h => by have h1 := HLT.out b hb; have h2 := HS7.out; omega))
  have HF9 := Lib.hid (hk9.blk hfb (by have h2 := HS7.out; omega))
  have HSZ : Hid (w.heap.size < (w7.alloc (.cells #[.bool false] 4 (0, 0))).heap.size) := Lib.hid (by have h2 := HS7.out; simp; omega)
  clear hq hk0 hk9 hk8 hfc hfb hqn hre
  obtain ⟨t0, t1, t2, t3, t4, t5, t6, t7, t8, t9, t10, t11⟩ := q12_cells HZ9.out
  obtain ⟨z0, z1, z2, z3, z4, z5, z6, z7, z8, z9, z10, z11⟩ := q12_free HZ9.out
  have HF9' := HF9.out
  unfold Qf.cs at HF9'
  obtain ⟨x0, x1, x2, x3, x4, x5, x6, x7, x8, x9, x10, x11⟩ := q12_cells HF9'
  clear HF9'
  have p0 : w9.cell? ⟨w.heap.size + 1 + 1, 0, none⟩ = some (.pointer (some ⟨w.heap.size + 1, 0, none⟩)) := HP9.out.cell 0
  have p1 : w9.cell? ⟨w.heap.size + 1, 1, none⟩ = some (.int .i64 (p : Int)) := HR9.out.k.cell 1
  go_wp2_with (go_region)
  refine bodyPost_ret (v := ?_) ?_ (by kernel_rfl) ?_
  rotate_left
  ·exact qread_results _ _ w.heap.size (.int .i64 (p : Int)) (.int .i64 0) (by kernel_rfl) (by kernel_rfl) (by kernel_rfl) (qs_blk HZ9.out _ _ _ _ _ _ _ _ _ _ _ _).drew
  have HKF := qs_keep (b := w.heap.size) (S := fun k => k = w.heap.size) (Keeps.refl _ w9) (fun _ => rfl) (.int .u64 f.c.t) (.int .u64 f.c.id) (.int .u64 f.c.off) (.bool f.c.fin) (.int .u64 f.c.mx) (.int .u64 f.c.code) (.int .u64 f.c.delay) (.slice f.ra f.rn f.rc) (.slice f.a f.n f.cap) (.bool f.c.uni) (.bool f.c.app) (.int .i64 f.c.N)
  have HBL := Keeps.below HK9.out HKF.drew HK9.out.size (fun k h => by omega)
  refine ⟨HBL, ?_⟩
  try rw [HD.out]
  have hp : p = m - y.length := by have h1 := HR9.out.len; have h2 := HR9.out.le; (try dsimp only at h1); omega
  exact ⟨f, HFC.out, by rw [hp]; rfl, (HQN.out.keep HKF.drew (fun b h1 h2 => by have h3 := HSZ.out; omega)).mono (by have h3 := HSZ.out; omega)⟩

theorem eager_any (f : Qf) (w : World) : Calls Try.prog 20 #[.agg f.cs] w fun e w' => e = .returned (.bool (f.c.t != 0 && (f.c.t != 2 && f.c.t != 28))) ∧ Keeps (fun _ => False) w w' := by
 unfold Qf.cs
 obtain ⟨t, ht⟩ : ∃ t, f.c.t = t := ⟨_, rfl⟩
 rw [ht]
 by_cases h0 : t = 0
 ·subst h0
  go_enter Try.func20, Try.ntmps20
  go_wp2_with fail
  go_returns
  exact ⟨rfl, (Keeps.refl _ w).alloc _⟩
 ·by_cases h2 : t = 2
  ·subst h2
   go_enter Try.func20, Try.ntmps20
   go_wp2_with fail
   go_returns
   exact ⟨rfl, (Keeps.refl _ w).alloc _⟩
  ·by_cases h28 : t = 28
   ·subst h28
    go_enter Try.func20, Try.ntmps20
    go_wp2_with fail
    go_returns
    exact ⟨rfl, (Keeps.refl _ w).alloc _⟩
   ·have e0 : (t != 0) = true := by simpa using h0
    have e2 : (t != 2) = true := by simpa using h2
    have e28 : (t != 28) = true := by simpa using h28
    have HH : Hid ((t != 0 && (t != 2 && t != 28)) = true) := Lib.hid (by rw [e0, e2, e28]; rfl)
    have d0 : (t == 0) = false := by simpa using h0
    have d2 : (t == 2) = false := by simpa using h2
    have d28 : (t == 28) = false := by simpa using h28
    clear h0 h2 h28 ht
    go_enter Try.func20, Try.ntmps20
    go_wp2_with fail
    go_returns
    exact ⟨by rw [HH.out]; rfl, (Keeps.refl _ w).alloc _⟩

/-- What All's closure has done. -/
def Al1P (rb po : Nat) (r : Option (List Qc)) (w : World) (e : Ending) (w' : World) : Prop :=
 Keeps (fun k => k = rb ∨ k = po) w w' ∧ match r with
  | some cs => e = .returned (.tuple #[]) ∧ ∃ (al : Option Addr) (cl : Nat) (l : List Qf), l.map (·.c) = cs ∧ Blk w' po #[.slice al l.length cl] 23 ∧ Qs w.heap.size w' al cl l
  | none => e = .panicked [{ v := stopV, recovered := false }]
set_option maxRecDepth 100000 in
set_option maxHeartbeats 6400000 in
theorem all1_any (rb pb pr po : Nat) (a : Option Addr) (m cap : Nat) (xs : List UInt8) (w : World) (hr : Re w rb a m cap xs 0 xs) (hlt : ∀ b, a.map (·.block) = some b → b < w.heap.size) (hb : Blk w pb #[.slice a m cap] 22) (hp : Blk w pr #[.pointer (some ⟨rb, 0, none⟩)] 66) (ho : Blk w po #[.slice none 0 0] 23)
  (h1 : po ≠ rb) (h2 : ∀ b, a.map (·.block) = some b → b ≠ po) (h3 : pr ≠ rb ∧ pr ≠ po) (h4 : pb ≠ rb ∧ pb ≠ po) :
  Calls Try.prog 26 #[.pointer (some ⟨pb, 0, none⟩), .pointer (some ⟨pr, 0, none⟩), .pointer (some ⟨po, 0, none⟩)] w (Al1P rb po (allQ xs) w) := by
 have HR := Lib.hid hr
 have HLT := Lib.hid hlt
 have HB := Lib.hid hb
 have HP := Lib.hid hp
 have HO := Lib.hid ho
 have H1 := Lib.hid h1
 have H2 := Lib.hid h2
 have H3 := Lib.hid h3
 have H4 := Lib.hid h4
 have hlm : m ≤ 1000000 := hr.small
 have HXM : Hid (xs.length = m) := Lib.hid hr.by_.1.symm
 have HRB : Hid (rb < w.heap.size ∧ po < w.heap.size ∧ pr < w.heap.size ∧ pb < w.heap.size) := Lib.hid ⟨hr.k.lt, ho.lt, hp.lt, hb.lt⟩
 have c0 : w.cell? ⟨pb, 0, none⟩ = some (.slice a m cap) := hb.cell 0
 clear hr hlt hb hp ho h1 h2 h3 h4
 by_cases hm : 0 < m
 rotate_left
 ·have hm0 : m = 0 := by omega
  have HD : Hid (allQ xs = none) := Lib.hid (by
   have hx : xs = [] := List.eq_nil_of_length_eq_zero (by rw [HXM.out]; exact hm0)
   unfold allQ; rw [if_pos hx])
  have hmd : decide ((0 : Int) < (m : Int)) = false := by simp; omega
  have hmd2 : decide (0 < m) = false := by simp; omega
  clear hm hm0
  go_enter Try.func26, Try.ntmps26
  go_wp2_with fail
  refine (must_no _).mono ?_
  rintro e w' ⟨rfl, rfl⟩
  go_wp2_with fail
  refine ⟨rfl, ?_⟩
  rw [HD.out]
  exact ⟨Keeps.refl _ _, rfl⟩
 ·have HD : Hid (allQ xs = appO [] (decsQ (m + 1) xs)) := Lib.hid (by
   have hx : xs ≠ [] := fun e => by have h := HXM.out; rw [e] at h; simp at h; omega
   unfold allQ; rw [if_neg hx, appO_nil, HXM.out])
  have hmd : decide ((0 : Int) < (m : Int)) = true := by simp; omega
  have hmd2 : decide (0 < m) = true := by simp; omega
  go_enter Try.func26, Try.ntmps26
  go_wp2_with fail
  refine (must_ok _).mono ?_
  rintro e w' ⟨rfl, rfl⟩
  clear hmd hmd2 c0 hm
  go_wp2_with fail
  go_loopg [] m (fun k wr => ∃ (p : Nat) (y : List UInt8) (al : Option Addr) (cl : Nat) (l : List Qf), y.length ≤ k ∧ l.length + y.length ≤ m ∧ Re wr rb a m cap xs p y ∧ Blk wr po #[.slice al l.length cl] 23 ∧ Qs w.heap.size wr al cl l ∧ allQ xs = appO (l.map (·.c)) (decsQ (k + 1) y) ∧ Keeps (fun k => k = rb ∨ k = po) w wr)
  case atStart => exact ⟨0, xs, none, 0, [], by rw [HXM.out]; exact Nat.le_refl _, by simp [HXM.out], HR.out, HO.out, Qs.nil _ _, HD.out, Keeps.refl _ _⟩
  case round =>
   obtain ⟨p, y, al, cl, l, hyk, hly, hre, hbo, hqs, hde, hkw⟩ := hrel
   have HLY := Lib.hid hly
   have HRE := Lib.hid hre
   have HBO := Lib.hid hbo
   have HQS := Lib.hid hqs
   have HDE := Lib.hid hde
   have HKW := Lib.hid hkw
   have hlen := hre.len
   have hle := hre.le
   have HPR := Lib.hid (hkw.blk HP.out (fun h => h.elim H3.out.1 H3.out.2))
   have HPB := Lib.hid (hkw.blk HB.out (fun h => h.elim H4.out.1 H4.out.2))
   have c0 : wr.cell? ⟨pr, 0, none⟩ = some (.pointer (some ⟨rb, 0, none⟩)) := HPR.out.cell 0
   have c1 : wr.cell? ⟨rb, 1, none⟩ = some (.int .i64 (p : Int)) := hre.k.cell 1
   have c2 : wr.cell? ⟨pb, 0, none⟩ = some (.slice a m cap) := HPB.out.cell 0
   clear hly hre hbo hqs hde hkw
   by_cases hpm : p < m
   ·have hd : decide ((p : Int) < (m : Int)) = true := by simp; omega
    obtain ⟨k, rfl⟩ : ∃ k, gk = k + 1 := ⟨gk - 1, by omega⟩
    go_wp2_with fail
    go_region_held3 (fun w' => w'.cell? ⟨pr, 0, none⟩ = some (.pointer (some ⟨rb, 0, none⟩)) ∧ w'.cell? ⟨rb, 1, none⟩ = some (.int .i64 (p : Int)) ∧ w'.cell? ⟨pb, 0, none⟩ = some (.slice a m cap)) (first | exact ⟨c0, c1, c2⟩ | go_keep) (fail)
    go_upto_region 2 with fail
    have HKd : Hid (Keeps (fun _ => False) wr wr.drew.drew) := Lib.hid ((Keeps.refl _ _).drew.drew)
    have HRd := Lib.hid (HRE.out.same HKd.out)
    have o0 : wr.cell? ⟨po, 0, none⟩ = some (.slice al l.length cl) := HBO.out.cell 0
    rename_i hheld
    clear hheld
    refine z_begin (fun w' : World => w'.cell? ⟨po, 0, none⟩ = some (.slice al l.length cl) ∧ w'.cell? ⟨pr, 0, none⟩ = some (.pointer (some ⟨rb, 0, none⟩))) 5 (by kernel_rfl) ?_
    have hS : (fun w' : World => w'.cell? ⟨po, 0, none⟩ = some (.slice al l.length cl) ∧ w'.cell? ⟨pr, 0, none⟩ = some (.pointer (some ⟨rb, 0, none⟩))) wr.drew.drew := ⟨o0, c0⟩
    refine z_take (i := 0) (v := ?_) rfl (by kernel_rfl) (by kernel_rfl) (by kernel_rfl) (by kernel_rfl) (fun _ _ _ h => h) (Or.inl ⟨by kernel_rfl, ?_⟩) hS ?_
    rotate_left
    ·intro wz ⟨_, _⟩; go_simp; try with_reducible rfl
    refine z_take (i := 1) (v := ?_) rfl (by kernel_rfl) (by kernel_rfl) (by kernel_rfl) (by kernel_rfl) (fun _ _ _ h => h) (Or.inl ⟨by kernel_rfl, ?_⟩) hS ?_
    rotate_left
    ·intro wz ⟨_, _⟩; go_simp; try with_reducible rfl
    refine z_callP (i := 2) 28 #[.pointer (some ⟨rb, 0, none⟩)] rfl (by kernel_rfl) (by kernel_rfl) (by kernel_rfl) ?_
    refine (rframe_any rb a m cap xs p y wr.drew.drew HRd.out (fun b hb => Nat.lt_of_lt_of_le (HLT.out b hb) (Nat.le_trans HKW.out.size HKd.out.size))).mono ?_
    rintro e w4 ⟨hk4, hr4⟩
    have hkd := HKd.out.to.trans hk4
    have HK4 : Hid (Keeps (fun k => k = rb ∨ k = po) w w4) := Lib.hid (HKW.out.trans (hkd.mono (fun _ _ h => Or.inl h)))
    have HS4 : Hid (wr.heap.size ≤ w4.heap.size) := Lib.hid hkd.size
    have HB4 := Lib.hid (hkd.blk HBO.out H1.out)
    have HP4 := Lib.hid (hkd.blk HPR.out H3.out.1)
    have HQ4 := Lib.hid (HQS.out.keep hkd (fun b hb => Or.inl (by have := HRB.out.1; omega)))
    have HW4 : Hid (w.heap.size ≤ wr.heap.size ∧ wr.heap.size ≤ w4.heap.size) := Lib.hid ⟨HKW.out.size, hkd.size⟩
    clear hk4 hkd
    cases hq : decQ y with
    | none =>
     rw [hq] at hr4
     have hr' : e = .panicked [{ v := stopV, recovered := false }] := hr4
     subst hr'
     have HN : Hid (allQ xs = none) := Lib.hid (by
      have hy0 : y ≠ [] := fun e => by have h := HRE.out.len; rw [e] at h; simp at h; omega
      rw [HDE.out, decs_bad hy0 hq]; rfl)
     refine Or.inr ⟨_, rfl, ?_⟩
     clear hS hr4 hq c0 c1 c2 o0
     go_wp2_with fail
     refine ⟨rfl, ?_⟩
     rw [HN.out]
     exact ⟨HK4.out, rfl⟩
    | some x =>
     obtain ⟨c, y2⟩ := x
     rw [hq] at hr4
     obtain ⟨p4, val, rfl, ⟨f, hfc, rfl, hqn⟩, hr4⟩ := hr4
     have hlt2 := decQ_lt hq
     have HN : Hid (allQ xs = appO ((l ++ [f]).map (·.c)) (decsQ (k + 1) y2)) := Lib.hid (by
      have hy0 : y ≠ [] := fun e => by have h := HRE.out.len; rw [e] at h; simp at h; omega
      rw [HDE.out, decs_go _ hy0 hq, List.map_append, List.map_singleton, hfc])
     have HQN := Lib.hid hqn
     have HR4 := Lib.hid hr4
     clear hq hqn hr4 hfc
     have o4 : w4.cell? ⟨po, 0, none⟩ = some (.slice al l.length cl) := HB4.out.cell 0
     have r4 : w4.cell? ⟨pr, 0, none⟩ = some (.pointer (some ⟨rb, 0, none⟩)) := HP4.out.cell 0
     refine Or.inl ⟨_, rfl, ⟨o4, r4⟩, ?_⟩
     have hka : Keeps (fun _ => False) w4 (w4.alloc (.cells f.cs 32 (0, 0))) := (Keeps.refl _ _).alloc _
     refine z_do (i := 3) (.slice (some ⟨w4.heap.size, 0, none⟩) 1 1) (w4.alloc (.cells f.cs 32 (0, 0))) rfl (by kernel_rfl) (by kernel_rfl) (by kernel_rfl) ⟨(hka.blk HB4.out (fun h => h)).cell 0, (hka.blk HP4.out (fun h => h)).cell 0⟩ ?_
     obtain ⟨inf, hi, hz, hs1, hs2⟩ := info_parts infoQ
     have HQA := Lib.hid (HQ4.out.keep hka (fun _ h => False.elim h))
     have hbd : l.length ≤ 1000000 := by have := HLY.out; omega
     refine z_app (i := 4) rfl (by kernel_rfl) (by kernel_rfl) (.tmp 14) (.tmp 17) 23 23 rfl w.heap.size 32 inf _ 12 120 Try.underlying23 hi hz hs1 hs2 rfl al l.length cl (qfs l) (by kernel_rfl) (.inl HQA.out.1) (.slice (some ⟨w4.heap.size, 0, none⟩) 1 1) (by kernel_rfl) 1 f.cs.toList (src_qf (Blk.new w4 f.cs 32)) (by simp only [maxLen]; omega) (by omega) (Nat.le_trans (Nat.le_trans HW4.out.1 HW4.out.2) hka.size) ?_
     intro a6 c6 w6 _ hk6 hn6 hown6 _
     have HQ6 : Hid (Qs w.heap.size w6 a6 c6 (l ++ [f])) := Lib.hid (Qs.snoc HQA.out hk6 hn6 (hown6 (by omega)) ((HQN.out.mono (by have h2 := HKd.out.size; have h3 := HW4.out.1; omega)).keep hka (fun _ h => False.elim h))
      (fun b hb e => by have h1 := (HQN.out.hb b hb).1; have h2 := (own_geQ HQS.out.1 b e).2; have h3 := HKd.out.size; omega)
      (fun b hb e => by have h1 := (HQN.out.hr b hb).1; have h2 := (own_geQ HQS.out.1 b e).2; have h3 := HKd.out.size; omega))
     have hmp : ∀ b, b < w.heap.size → ¬ mine w.heap.size al b := fun b hb h => by have := h.1; omega
     have hk46 : Keeps (mine w.heap.size al) w4 w6 := hka.to.trans hk6
     have HB6 := Lib.hid (hk46.blk HB4.out (hmp po HRB.out.2.1))
     have HP6 := Lib.hid (hk46.blk HP4.out (hmp pr HRB.out.2.2.1))
     have HR6 := Lib.hid (HR4.out.keep hk46 (hmp rb HRB.out.1) (fun b hb => hmp b (HLT.out b hb)))
     have HK6 : Hid (Keeps (fun k => k = rb ∨ k = po) w w6) := Lib.hid (Keeps.trans2 HK4.out hk46 (fun b hb h => absurd h (hmp b hb)))
     have o6 : w6.cell? ⟨po, 0, none⟩ = some (.slice al l.length cl) := HB6.out.cell 0
     have f6 : w6.frozen? ⟨po, 0, none⟩ = false := HB6.out.free 0
     have r6 : w6.cell? ⟨pr, 0, none⟩ = some (.pointer (some ⟨rb, 0, none⟩)) := HP6.out.cell 0
     refine ⟨⟨o6, r6⟩, ?_⟩
     clear hka hk6 hn6 hown6 hk46 hi hz hs1 hs2 hS
     refine z_last (w6.setCell ⟨po, 0, none⟩ (.slice a6 (l.length + 1) c6)) rfl (by kernel_rfl) (by kernel_rfl) ?_ (by kernel_rfl) ?_
     ·go_simp; try with_reducible rfl
     have HKP : Hid (Keeps (fun k => k = po) w6 (w6.setCell ⟨po, 0, none⟩ (.slice a6 (l.length + 1) c6))) := Lib.hid ((Keeps.refl (fun k => k = po) w6).put 0 _)
     have HB7 : Hid (Blk (w6.setCell ⟨po, 0, none⟩ (.slice a6 (l.length + 1) c6)) po #[.slice a6 (l ++ [f]).length c6] 23) := Lib.hid ((HB6.out.set 0 (.slice a6 (l.length + 1) c6)).as (by rw [List.length_append]; rfl))
     have HR7 := Lib.hid (HR6.out.keep HKP.out (fun h => H1.out h.symm) (fun b hb h => H2.out b hb h))
     have HQ7 := Lib.hid (HQ6.out.keep HKP.out (fun b hb => Or.inl (by have := HRB.out.2.1; omega)))
     have HK7 : Hid (Keeps (fun k => k = rb ∨ k = po) w (w6.setCell ⟨po, 0, none⟩ (.slice a6 (l.length + 1) c6))) := Lib.hid (HK6.out.trans (HKP.out.mono (fun _ _ h => Or.inr h)))
     clear o0 o4 o6 f6 r4 r6 c0 c1 c2
     go_wp2_with fail
     go_roundg k
     case measure => omega
     case rel => exact ⟨p4, y2, a6, c6, l ++ [f], by omega, by have := HLY.out; simp; omega, HR7.out, HB7.out, HQ7.out, HN.out, HK7.out⟩
   ·have hy0 : y = [] := List.eq_nil_of_length_eq_zero (by omega)
    have HN : Hid (allQ xs = some (l.map (·.c))) := Lib.hid (by rw [HDE.out, hy0, decs_end]; simp [appO])
    have hd : decide ((p : Int) < (m : Int)) = false := by simp; omega
    clear hy0
    go_wp2_with fail
    go_region_held3 (fun w' => w'.cell? ⟨pr, 0, none⟩ = some (.pointer (some ⟨rb, 0, none⟩)) ∧ w'.cell? ⟨rb, 1, none⟩ = some (.int .i64 (p : Int)) ∧ w'.cell? ⟨pb, 0, none⟩ = some (.slice a m cap)) (first | exact ⟨c0, c1, c2⟩ | go_keep) (fail)
    go_wp2_with fail
    go_end0
    try rw [HN.out]
    exact ⟨HKW.out.drew, rfl, al, cl, l, rfl, HBO.out.drew, HQS.out.keep ((Keeps.refl (fun _ => False) wr).drew) (fun _ h => False.elim h)⟩

/-- What was tried by All. -/
def AlR (rb po : Nat) (r : Option (List Qc)) (w8 : World) (ok : Bool) (w' : World) : Prop :=
 Keeps (fun k => k = rb ∨ k = po) w8 w' ∧ match r with
  | some cs => ok = true ∧ ∃ (al : Option Addr) (cl : Nat) (l : List Qf), l.map (·.c) = cs ∧ Blk w' po #[.slice al l.length cl] 23 ∧ Qs w8.heap.size w' al cl l
  | none => ok = false
theorem al_tried {rb po n : Nat} {r : Option (List Qc)} {w8 : World} {e : Ending} {w' : World} (h : Al1P rb po r w8 e w') (hb : Blk w8 n #[.bool false] 4) (h1 : n ≠ rb) (h2 : n ≠ po) : TriedP n (AlR rb po r w8) e w' := by
 obtain ⟨h3, h4⟩ := h
 refine ⟨h3.blk hb (fun h => h.elim h1 h2), ?_⟩
 cases r with
 | none => exact .inr ⟨h4, h3, rfl⟩
 | some zs => exact .inl ⟨h4.1, h3, rfl, h4.2⟩

set_option maxRecDepth 100000 in
set_option maxHeartbeats 3200000 in
theorem qall_any (a : Option Addr) (m cap : Nat) (xs : List UInt8) (w : World) (hb : By w a m cap xs) (hm : m ≤ 1000000) (hlt : ∀ b, a.map (·.block) = some b → b < w.heap.size) :
  Calls Try.prog 14 #[.slice a m cap] w (AllP (allQ xs) w) := by
 have HB := Lib.hid hb
 have HLT := Lib.hid hlt
 have HM := Lib.hid hm
 have hmf : ∀ (fn : Fn) (first cap : Array Value) (w : World), (Instr.makeFunc fn first cap).run Try.prog w = .ok (.func fn first cap) w := fun _ _ _ _ => rfl
 clear hb hlt
 go_enter Try.func14, Try.ntmps14
 go_wp2_with fail
 refine calls_named ?_
 intro w7 hw7
 have HZ7 : Hid (Blk w7 w.heap.size #[.slice a m cap] 22) := Lib.hid (by rw [← hw7]; exact (((Blk.new w _ _).alloc _).alloc _).alloc _)
 have HK7 : Hid (Below w.heap.size w w7) := Lib.hid (by
  rw [← hw7]
  refine ((((Below.refl _ w).alloc (Nat.le_refl _) _).alloc ?_ _).alloc ?_ _).alloc ?_ _ <;> simp <;> omega)
 have HKK : Hid (Keeps (fun _ => False) w w7) := Lib.hid (by rw [← hw7]; exact ((((Keeps.refl _ w).alloc _).alloc _).alloc _).alloc _)
 have HS7 : Hid (w7.heap.size = w.heap.size + 4) := Lib.hid (by rw [← hw7]; simp)
 have HR7 : Hid (Re w7 (w.heap.size + 1) a m cap xs 0 xs) := Lib.hid ⟨HB.out.keep HKK.out (fun _ _ h => h), by
   rw [← hw7]
   have h := Blk.new (w.alloc (.cells #[.slice a m cap] 22 (0, 0))) #[.slice a m cap, .int .i64 0] 68
   rw [World.size_alloc] at h
   exact (h.alloc _).alloc _, Nat.zero_le _, rfl, fun b hb => by have := HLT.out b hb; omega, HM.out⟩
 have HP7 : Hid (Blk w7 (w.heap.size + 1 + 1) #[.pointer (some ⟨w.heap.size + 1, 0, none⟩)] 66) := Lib.hid (by
   rw [← hw7]
   have h := Blk.new ((w.alloc (.cells #[.slice a m cap] 22 (0, 0))).alloc (.cells #[.slice a m cap, .int .i64 0] 68 (0, 0))) #[.pointer (some ⟨w.heap.size + 1, 0, none⟩)] 66
   rw [World.size_alloc, World.size_alloc] at h
   exact h.alloc _)
 have HF7 : Hid (Blk w7 (w.heap.size + 1 + 1 + 1) #[.slice none 0 0] 23) := Lib.hid (by
   rw [← hw7]
   have h := Blk.new (((w.alloc (.cells #[.slice a m cap] 22 (0, 0))).alloc (.cells #[.slice a m cap, .int .i64 0] 68 (0, 0))).alloc (.cells #[.pointer (some ⟨w.heap.size + 1, 0, none⟩)] 66 (0, 0))) #[.slice none 0 0] 23
   rw [World.size_alloc, World.size_alloc, World.size_alloc] at h
   exact h)
 clear hw7
 have hk8 : Keeps (fun _ => False) w7 (w7.alloc (.cells #[.bool false] 4 (0, 0))) := (Keeps.refl _ w7).alloc _
 refine (try_any 26 _ w7 (AlR (w.heap.size + 1) (w.heap.size + 1 + 1 + 1) (allQ xs) (w7.alloc (.cells #[.bool false] 4 (0, 0)))) (fun _ => rfl)
  ((all1_any (w.heap.size + 1) w.heap.size (w.heap.size + 1 + 1) (w.heap.size + 1 + 1 + 1) a m cap xs _ (HR7.out.same hk8) (fun b hb => by have h1 := HLT.out b hb; have h2 := HS7.out; have h3 := hk8.size; omega) (hk8.blk HZ7.out (fun h => h)) (hk8.blk HP7.out (fun h => h)) (hk8.blk HF7.out (fun h => h)) (by omega) (fun b hb => by have h1 := HLT.out b hb; omega) ⟨by omega, by omega⟩ ⟨by omega, by omega⟩).mono
   (fun e w' h => al_tried h (Blk.new w7 _ _) (by have h2 := HS7.out; omega) (by have h2 := HS7.out; omega)))).mono ?_
 rintro e w9 ⟨ok, w0, rfl, ⟨hk0, hr⟩, hk9⟩
 have HKA : Hid (Keeps (fun k => w.heap.size + 1 ≤ k) w7 w9) := Lib.hid (((hk8.to.trans (hk0.mono (fun k _ h => by have h2 := HS7.out; omega))).trans (hk9.mono (fun k _ h => by have h2 := HS7.out; omega))))
 have HK9 : Hid (Below w.heap.size w w9) := Lib.hid (Keeps.below HK7.out HKA.out HK7.out.size (fun k h => by omega))
 clear hmf
 cases hq : allQ xs with
 | none =>
  rw [hq] at hr
  have hr' : ok = false := hr
  subst hr'
  have HD := Lib.hid hq
  clear hr hq hk0 hk9 hk8
  go_wp2_with fail
  go_returns
  refine ⟨HK9.out, ?_⟩
  first | rfl | (rw [HD.out]; rfl) | rw [HD.out]
 | some cs =>
  rw [hq] at hr
  obtain ⟨rfl, al, cl, l, hfc, hfb, hqn⟩ := hr
  have HD := Lib.hid hq
  have HFC := Lib.hid hfc
  have HQN := Lib.hid (hqn.keep hk9 (fun b h1 => by have h3 := hk8.size; have h4 := HS7.out; left; simp; omega))
  have HF9 := Lib.hid (hk9.blk hfb (by have h2 := HS7.out; omega))
  have HSZ : Hid (w.heap.size ≤ (w7.alloc (.cells #[.bool false] 4 (0, 0))).heap.size) := Lib.hid (by have h2 := HS7.out; simp; omega)
  clear hq hk0 hk9 hk8 hfc hfb hqn
  have p0 : w9.cell? ⟨w.heap.size + 1 + 1 + 1, 0, none⟩ = some (.slice al l.length cl) := HF9.out.cell 0
  go_wp2_with fail
  go_returns
  refine ⟨HK9.out, ?_⟩
  try rw [HD.out]
  refine ⟨al, cl, l, HFC.out, rfl, own_monoQ HQN.out.1 HSZ.out, fun f hf => ⟨(HQN.out.2 f hf).1.mono HSZ.out, (HQN.out.2 f hf).2⟩⟩

end Go.Proofs.Ytgfkgmmigbpciaa

/- known of the law. -/
namespace Go.Proofs.Ytgfkgmmigbpciaa
set_option linter.unusedSimpArgs false
set_option linter.unusedVariables false
open Go.RowKit Go.Deep

def kc1 : Qc := ⟨2, 0, 0, false, 0, 0, 0, [(5, 9), (1, 3)], [], false, false, 0⟩
def kc2 : Qc := ⟨8, 4, 7, true, 0, 0, 0, [], [97, 98], false, false, 0⟩
def kc3 : Qc := ⟨0, 0, 0, false, 0, 0, 0, [], [], false, false, 3⟩
def kzs : List UInt8 := [2, 9, 0, 1, 4, 0, 2, 15, 4, 7, 2, 97, 98, 0, 0, 0]
theorem k_enc : encsQ [kc1, kc2, kc3] = some kzs := by kernel_rfl
theorem k_dec : allQ kzs = some [kc1, kc2, kc3] := by kernel_rfl
theorem k_no : allQ [31] = none := by kernel_rfl

theorem kw1 : kc1.wf := ⟨⟨by decide, by decide⟩, ⟨by decide, by decide⟩, ⟨by decide, by decide⟩, ⟨by decide, by decide⟩, ⟨by decide, by decide⟩, ⟨by decide, by decide⟩, fun r hr => by
  have hr' : r ∈ [((5 : Int), (9 : Int)), (1, 3)] := hr
  simp only [List.mem_cons, List.not_mem_nil, or_false] at hr'
  rcases hr' with rfl | rfl <;> exact ⟨⟨by decide, by decide⟩, ⟨by decide, by decide⟩⟩, by decide, by decide⟩
theorem kw2 : kc2.wf := ⟨⟨by decide, by decide⟩, ⟨by decide, by decide⟩, ⟨by decide, by decide⟩, ⟨by decide, by decide⟩, ⟨by decide, by decide⟩, ⟨by decide, by decide⟩, fun r hr => (by cases hr), by decide, by decide⟩
theorem kw3 : kc3.wf := ⟨⟨by decide, by decide⟩, ⟨by decide, by decide⟩, ⟨by decide, by decide⟩, ⟨by decide, by decide⟩, ⟨by decide, by decide⟩, ⟨by decide, by decide⟩, fun r hr => (by cases hr), by decide, by decide⟩
theorem ks1 : kc1.Small := ⟨by decide, by decide, by decide⟩
theorem ks2 : kc2.Small := ⟨by decide, by decide, by decide⟩
theorem ks3 : kc3.Small := ⟨by decide, by decide, by decide⟩
theorem conv_two (w : World) (x y : Value) (g : Nat) (hg : g = w.heap.size) : (convert 22 22 (.slice (some ⟨g, 0, none⟩) 2 2)).run Try.prog (w.alloc (.cells #[x, y] 5 (0, 0))) = .ok (.slice (some ⟨g, 0, none⟩) 2 2) (w.alloc (.cells #[x, y] 5 (2, 3))) := by
 subst hg
 exact Lib.run_convert_bytes_const w 22 5 #[x, y] 2 2 Try.underlying22 Try.underlying5
theorem upon_conv {P : Program} {o : Oper} {a : Act} {K : Act → World → Prop} {Q : Exit → Act → World → Prop} {src dst : TypeId} {v u : Value} {w w' : World} (h : (convert src dst v).run P w = .ok u w') (hk : K (a.put o.dst u) w') :
  o.upon P a K Q (((convert src dst v).run P w).andThen fun a w' => .ok (.value a) w') := by rw [h]; exact hk
theorem By.markR (w : World) (xs : List UInt8) (vs : Array Value) (t : TypeId) (fr : Nat × Nat) (h : xs.length ≤ 1000) (hv : vs = (Bs xs).toArray) : By (w.alloc (.cells vs t fr)) (some ⟨w.heap.size, 0, none⟩) xs.length xs.length xs := by
 subst hv
 refine ⟨rfl, Nat.le_refl _, by unfold maxLen; omega, by simp [Bs], .inr ⟨w.heap.size, 0, rfl, by simp, fun j u hj => ?_⟩⟩
 rw [Nat.zero_add, World.cell?_alloc_mark]
 simpa using hj
theorem Rv.blk {w : World} {b : Nat} {cs : Array Value} {t : TypeId} (h : Blk w b cs t) (l : List (Int × Int)) (hc : cs.toList = Rgs l) (hl : l.length ≤ 1000) : Rv w (some ⟨b, 0, none⟩) l.length l.length l :=
 ⟨rfl, Nat.le_refl _, by unfold maxLen; omega, Rgs_length l, .inr ⟨b, 0, rfl, h.lt, fun j u hj => by rw [Nat.zero_add, h.cell j, ← Array.getElem?_toList, hc]; exact hj⟩⟩
theorem Qv.blk {w : World} {b : Nat} {cs : Array Value} {t : TypeId} (h : Blk w b cs t) (l : List Qf) (hc : cs.toList = qfs l) (hl : l.length ≤ 1000) (hq : ∀ f ∈ l, Qin w f) : Qv w (some ⟨b, 0, none⟩) l.length l.length l :=
 ⟨rfl, Nat.le_refl _, by unfold maxLen; omega, fun i hi => ⟨⟨b, 0, rfl, h.lt, fun j v hv => by
  have hj : j < 12 := by
   rcases Nat.lt_or_ge j 12 with h' | h'
   ·exact h'
   ·rw [Array.getElem?_eq_none (by rw [Qf.size]; exact h')] at hv; cases hv
  rw [Nat.zero_add, h.cell, ← Array.getElem?_toList, hc, qfs_get l i hi j hj]
  exact hv⟩, hq _ (List.getElem_mem hi)⟩⟩

set_option maxRecDepth 100000 in
set_option maxHeartbeats 6400000 in
theorem known_any (w : World) : Calls Try.prog 9 #[] w fun e w' => e = .returned (.bool true) ∧ Below w.heap.size w w' := by
 go_enter Try.func9, Try.ntmps9
 go_wp2_with fail
 refine upon_conv (conv_two (w.alloc (.cells #[.int .u64 5, .int .u64 9, .int .u64 1, .int .u64 3] 54 (0, 0))) _ _ _ (by simp)) ?_
 go_wp2_with fail
 refine calls_named ?_
 intro w1 hw1
 have HA1 : Hid (Blk w1 w.heap.size #[.int .u64 5, .int .u64 9, .int .u64 1, .int .u64 3] 54) := Lib.hid (by rw [← hw1]; exact ((Blk.new w _ _).alloc _).alloc _)
 have HY1 : Hid (By w1 (some ⟨w.heap.size + 1, 0, none⟩) 2 2 [97, 98]) := Lib.hid (by
  rw [← hw1]
  have h := By.markR (w.alloc (.cells #[.int .u64 5, .int .u64 9, .int .u64 1, .int .u64 3] 54 (0, 0))) [97, 98] #[.int .u8 97, .int .u8 98] 5 (2, 3) (by simp) rfl
  rw [World.size_alloc] at h
  exact h.alloc _)
 have HF1 : Hid (Blk w1 (w.heap.size + 1 + 1) #[.int .u64 2, .int .u64 0, .int .u64 0, .bool false, .int .u64 0, .int .u64 0, .int .u64 0, .slice (some ⟨w.heap.size, 0, none⟩) 2 2, .slice none 0 0, .bool false, .bool false, .int .i64 0, .int .u64 8, .int .u64 4, .int .u64 7, .bool true, .int .u64 0, .int .u64 0, .int .u64 0, .slice none 0 0, .slice (some ⟨w.heap.size + 1, 0, none⟩) 2 2, .bool false, .bool false, .int .i64 0, .int .u64 0, .int .u64 0, .int .u64 0, .bool false, .int .u64 0, .int .u64 0, .int .u64 0, .slice none 0 0, .slice none 0 0, .bool false, .bool false, .int .i64 3] 32) := Lib.hid (by
  rw [← hw1]
  have h := Blk.new ((w.alloc (.cells #[.int .u64 5, .int .u64 9, .int .u64 1, .int .u64 3] 54 (0, 0))).alloc (.cells #[.int .u8 97, .int .u8 98] 5 (2, 3))) #[.int .u64 2, .int .u64 0, .int .u64 0, .bool false, .int .u64 0, .int .u64 0, .int .u64 0, .slice (some ⟨w.heap.size, 0, none⟩) 2 2, .slice none 0 0, .bool false, .bool false, .int .i64 0, .int .u64 8, .int .u64 4, .int .u64 7, .bool true, .int .u64 0, .int .u64 0, .int .u64 0, .slice none 0 0, .slice (some ⟨w.heap.size + 1, 0, none⟩) 2 2, .bool false, .bool false, .int .i64 0, .int .u64 0, .int .u64 0, .int .u64 0, .bool false, .int .u64 0, .int .u64 0, .int .u64 0, .slice none 0 0, .slice none 0 0, .bool false, .bool false, .int .i64 3] 32
  rw [World.size_alloc, World.size_alloc] at h
  exact h)
 have HS1 : Hid (w1.heap.size = w.heap.size + 3) := Lib.hid (by rw [← hw1]; simp)
 have HK1 : Hid (Below w.heap.size w w1) := Lib.hid (by
  rw [← hw1]
  refine (((Below.refl _ w).alloc (Nat.le_refl _) _).alloc ?_ _).alloc ?_ _ <;> simp <;> omega)
 clear hw1
 have HQV : Hid (∀ w', Below w1.heap.size w1 w' → Qv w' (some ⟨w.heap.size + 1 + 1, 0, none⟩) 3 3 [⟨kc1, some ⟨w.heap.size, 0, none⟩, 2, 2, none, 0, 0⟩, ⟨kc2, none, 0, 0, some ⟨w.heap.size + 1, 0, none⟩, 2, 2⟩, ⟨kc3, none, 0, 0, none, 0, 0⟩]) := Lib.hid (fun w' hb => by
  have hk := Below.keeps hb
  have hs := HS1.out
  have hA := hk.blk HA1.out (by omega)
  have hY := HY1.out.keep hk (fun b hb h => by simp at hb; omega)
  have hF := hk.blk HF1.out (by omega)
  refine Qv.blk hF [⟨kc1, some ⟨w.heap.size, 0, none⟩, 2, 2, none, 0, 0⟩, ⟨kc2, none, 0, 0, some ⟨w.heap.size + 1, 0, none⟩, 2, 2⟩, ⟨kc3, none, 0, 0, none, 0, 0⟩] rfl (by simp) (fun f hf => ?_)
  simp only [List.mem_cons, List.not_mem_nil, or_false] at hf
  rcases hf with rfl | rfl | rfl
  ·exact ⟨By.nil _, Rv.blk hA [(5, 9), (1, 3)] rfl (by simp), kw1⟩
  ·exact ⟨hY, Rv.nil _, kw2⟩
  ·exact ⟨By.nil _, Rv.nil _, kw3⟩)
 refine (qwrite_any none 0 0 [] (some ⟨w.heap.size + 1 + 1, 0, none⟩) 3 3 [⟨kc1, some ⟨w.heap.size, 0, none⟩, 2, 2, none, 0, 0⟩, ⟨kc2, none, 0, 0, some ⟨w.heap.size + 1, 0, none⟩, 2, 2⟩, ⟨kc3, none, 0, 0, none, 0, 0⟩] w1 (By.nil _) HQV.out (fun f hf => by
  simp only [List.mem_cons, List.not_mem_nil, or_false] at hf
  rcases hf with rfl | rfl | rfl
  ·exact ks1
  ·exact ks2
  ·exact ks3) (by omega) (by simp)).mono ?_
 rintro e w2 ⟨hk2, hr2⟩
 rw [show encsO [] [⟨kc1, some ⟨w.heap.size, 0, none⟩, 2, 2, none, 0, 0⟩, ⟨kc2, none, 0, 0, some ⟨w.heap.size + 1, 0, none⟩, 2, 2⟩, ⟨kc3, none, 0, 0, none, 0, 0⟩] = some kzs by unfold encsO; rw [show ([⟨kc1, some ⟨w.heap.size, 0, none⟩, 2, 2, none, 0, 0⟩, ⟨kc2, none, 0, 0, some ⟨w.heap.size + 1, 0, none⟩, 2, 2⟩, ⟨kc3, none, 0, 0, none, 0, 0⟩] : List Qf).map (·.c) = [kc1, kc2, kc3] from rfl, k_enc]; rfl] at hr2
 obtain ⟨a2, n2, c2, rfl, ho2⟩ := hr2
 have HK2 := Lib.hid hk2
 have HO2 := Lib.hid ho2
 have HN2 : Hid (n2 = 16) := Lib.hid ho2.1
 clear hk2 ho2
 go_wp2_with fail
 refine (qall_any a2 n2 c2 kzs w2 HO2.out.by (by have := HN2.out; omega) (fun b hb => (HO2.out.ge b hb).2)).mono ?_
 rintro e w3 ⟨hk3, hr3⟩
 rw [k_dec] at hr3
 obtain ⟨a3, c3, l3, hl3, rfl, hq3⟩ := hr3
 have HK3 := Lib.hid hk3
 have HL3 := Lib.hid hl3
 have HQ3 := Lib.hid hq3
 clear hk3 hl3 hq3
 go_wp2_with fail
 have HK4 : Hid (Below w3.heap.size w3 (w3.alloc (.cells #[.int .u8 31] 5 (0, 0)))) := Lib.hid ((Below.refl _ _).alloc (Nat.le_refl _) _)
 refine (qall_any (some ⟨w3.heap.size, 0, none⟩) 1 1 [31] _ (By.new w3 [31] _ _ (by simp) rfl) (by omega) (fun b hb => by simp at hb; subst hb; simp)).mono ?_
 rintro e w5 ⟨hk5, hr5⟩
 rw [k_no] at hr5
 have hr5' : e = .returned (.tuple #[.slice none 0 0, .int .i64 30]) := hr5
 subst hr5'
 have HK5 : Hid (Below w3.heap.size w3 w5) := Lib.hid (HK4.out.trans (hk5.mono HK4.out.size))
 clear hk5 hr5
 go_wp2_with fail
 have HW12 : Hid (Below w1.heap.size w1 w5) := Lib.hid ((HK2.out.trans (HK3.out.mono HK2.out.size)).trans (HK5.out.mono (Nat.le_trans HK2.out.size HK3.out.size)))
 have HQ5 : Hid (Qs w2.heap.size w5 a3 c3 l3) := Lib.hid (HQ3.out.keep (Below.keeps HK5.out) (fun b hb => Or.inr hb))
 refine (qframes_eq (some ⟨w.heap.size + 1 + 1, 0, none⟩) 3 3 a3 l3.length c3 [⟨kc1, some ⟨w.heap.size, 0, none⟩, 2, 2, none, 0, 0⟩, ⟨kc2, none, 0, 0, some ⟨w.heap.size + 1, 0, none⟩, 2, 2⟩, ⟨kc3, none, 0, 0, none, 0, 0⟩] l3 w5 (fun w' h => HQV.out w' (Keeps.below HW12.out h HW12.out.size (fun _ h => False.elim h))) (fun w' h => (HQ5.out.keep h (fun _ h => False.elim h)).qv) HL3.out.symm (fun f hf => by
  simp only [List.mem_cons, List.not_mem_nil, or_false] at hf
  rcases hf with rfl | rfl | rfl
  ·exact Nat.le_trans ks1.r (by omega)
  ·exact Nat.le_trans ks2.r (by omega)
  ·exact Nat.le_trans ks3.r (by omega)) (by simp)).mono ?_
 rintro e w6 ⟨rfl, hk6⟩
 have HF6 : Hid (Blk w6 (w.heap.size + 1 + 1) #[.int .u64 2, .int .u64 0, .int .u64 0, .bool false, .int .u64 0, .int .u64 0, .int .u64 0, .slice (some ⟨w.heap.size, 0, none⟩) 2 2, .slice none 0 0, .bool false, .bool false, .int .i64 0, .int .u64 8, .int .u64 4, .int .u64 7, .bool true, .int .u64 0, .int .u64 0, .int .u64 0, .slice none 0 0, .slice (some ⟨w.heap.size + 1, 0, none⟩) 2 2, .bool false, .bool false, .int .i64 0, .int .u64 0, .int .u64 0, .int .u64 0, .bool false, .int .u64 0, .int .u64 0, .int .u64 0, .slice none 0 0, .slice none 0 0, .bool false, .bool false, .int .i64 3] 32) := Lib.hid (hk6.blk ((Below.keeps HW12.out).blk HF1.out (by have := HS1.out; omega)) (fun h => h))
 have HK6 : Hid (Below w.heap.size w w6) := Lib.hid (Keeps.below (HK1.out.trans (HW12.out.mono HK1.out.size)) hk6 (Nat.le_trans HK1.out.size HW12.out.size) (fun _ h => False.elim h))
 clear hk6
 have x0 : w6.cell? ⟨w.heap.size + 1 + 1, 12, none⟩ = some (.int .u64 8) := HF6.out.cell 12
 have x1 : w6.cell? ⟨w.heap.size + 1 + 1, 13, none⟩ = some (.int .u64 4) := HF6.out.cell 13
 have x2 : w6.cell? ⟨w.heap.size + 1 + 1, 14, none⟩ = some (.int .u64 7) := HF6.out.cell 14
 have x3 : w6.cell? ⟨w.heap.size + 1 + 1, 15, none⟩ = some (.bool true) := HF6.out.cell 15
 have x4 : w6.cell? ⟨w.heap.size + 1 + 1, 16, none⟩ = some (.int .u64 0) := HF6.out.cell 16
 have x5 : w6.cell? ⟨w.heap.size + 1 + 1, 17, none⟩ = some (.int .u64 0) := HF6.out.cell 17
 have x6 : w6.cell? ⟨w.heap.size + 1 + 1, 18, none⟩ = some (.int .u64 0) := HF6.out.cell 18
 have x7 : w6.cell? ⟨w.heap.size + 1 + 1, 19, none⟩ = some (.slice none 0 0) := HF6.out.cell 19
 have x8 : w6.cell? ⟨w.heap.size + 1 + 1, 20, none⟩ = some (.slice (some ⟨w.heap.size + 1, 0, none⟩) 2 2) := HF6.out.cell 20
 have x9 : w6.cell? ⟨w.heap.size + 1 + 1, 21, none⟩ = some (.bool false) := HF6.out.cell 21
 have x10 : w6.cell? ⟨w.heap.size + 1 + 1, 22, none⟩ = some (.bool false) := HF6.out.cell 22
 have x11 : w6.cell? ⟨w.heap.size + 1 + 1, 23, none⟩ = some (.int .i64 0) := HF6.out.cell 23
 go_wp2_with fail
 clear x0 x1 x2 x3 x4 x5 x6 x7 x8 x9 x10 x11
 refine (eager_any ⟨kc2, none, 0, 0, some ⟨w.heap.size + 1, 0, none⟩, 2, 2⟩ w6).mono ?_
 rintro e w7 ⟨rfl, hk7⟩
 have HF6 := Lib.hid (hk7.blk HF6.out (fun h => h))
 have HK7 : Hid (Below w.heap.size w w7) := Lib.hid (Keeps.below HK6.out hk7 HK6.out.size (fun _ h => False.elim h))
 clear hk7
 rw [show (kc2.t != 0 && (kc2.t != 2 && kc2.t != 28)) = true from rfl]
 have x0 : w7.cell? ⟨w.heap.size + 1 + 1, 0, none⟩ = some (.int .u64 2) := HF6.out.cell 0
 have x1 : w7.cell? ⟨w.heap.size + 1 + 1, 1, none⟩ = some (.int .u64 0) := HF6.out.cell 1
 have x2 : w7.cell? ⟨w.heap.size + 1 + 1, 2, none⟩ = some (.int .u64 0) := HF6.out.cell 2
 have x3 : w7.cell? ⟨w.heap.size + 1 + 1, 3, none⟩ = some (.bool false) := HF6.out.cell 3
 have x4 : w7.cell? ⟨w.heap.size + 1 + 1, 4, none⟩ = some (.int .u64 0) := HF6.out.cell 4
 have x5 : w7.cell? ⟨w.heap.size + 1 + 1, 5, none⟩ = some (.int .u64 0) := HF6.out.cell 5
 have x6 : w7.cell? ⟨w.heap.size + 1 + 1, 6, none⟩ = some (.int .u64 0) := HF6.out.cell 6
 have x7 : w7.cell? ⟨w.heap.size + 1 + 1, 7, none⟩ = some (.slice (some ⟨w.heap.size, 0, none⟩) 2 2) := HF6.out.cell 7
 have x8 : w7.cell? ⟨w.heap.size + 1 + 1, 8, none⟩ = some (.slice none 0 0) := HF6.out.cell 8
 have x9 : w7.cell? ⟨w.heap.size + 1 + 1, 9, none⟩ = some (.bool false) := HF6.out.cell 9
 have x10 : w7.cell? ⟨w.heap.size + 1 + 1, 10, none⟩ = some (.bool false) := HF6.out.cell 10
 have x11 : w7.cell? ⟨w.heap.size + 1 + 1, 11, none⟩ = some (.int .i64 0) := HF6.out.cell 11
 go_wp2_with fail
 clear x0 x1 x2 x3 x4 x5 x6 x7 x8 x9 x10 x11
 refine (eager_any ⟨kc1, some ⟨w.heap.size, 0, none⟩, 2, 2, none, 0, 0⟩ w7).mono ?_
 rintro e w8 ⟨rfl, hk8⟩
 have HK8 : Hid (Below w.heap.size w w8) := Lib.hid (Keeps.below HK7.out hk8 HK7.out.size (fun _ h => False.elim h))
 clear hk8
 rw [show (kc1.t != 0 && (kc1.t != 2 && kc1.t != 28)) = false from rfl]
 go_wp2_with fail
 go_returns
 exact ⟨rfl, HK8.out⟩

end Go.Proofs.Ytgfkgmmigbpciaa

/- Frames of QUIC that came in. -/
namespace Go.Proofs.Ytgfkgmmigbpciaa
set_option linter.unusedSimpArgs false
set_option linter.unusedVariables false
open Go.RowKit Go.Deep

theorem Rd.bytesQ {w : World} {v : Value} (h : Rd Try.prog w 22 v) : ∃ a n cap xs, v = .slice a n cap ∧ ∀ w', Below w.heap.size w w' → By w' a n cap xs := by
 obtain ⟨a, len, cap, V, rfl, hl, hm, hs, hv⟩ := h.row Try.underlying22 (by kernel_rfl)
 have hc : ∀ i, i < len → ∃ c : UInt8, V i 0 = B c := by
  intro i hi
  obtain ⟨n, hn, hw⟩ := (hv i (by omega)).int Try.underlying5
  have := wf_u8_iff hw
  refine ⟨byt n, ?_⟩
  rw [hn, ← B_byt, Int.emod_eq_of_lt (by omega) (by omega)]
 obtain ⟨xs, h1, h2⟩ := list_of B (fun i => V i 0) len hc
 exact ⟨a, len, cap, xs, rfl, fun w' hb => ⟨h1.symm, Seen.vw hl hm (hs.keep hb (Nat.le_refl _)) h1 h2⟩⟩

theorem list_ofR {α : Type} (R : α → (Nat → Value) → Prop) (V : Nat → Nat → Value) : ∀ n : Nat, (∀ i, i < n → ∃ c : α, R c (V i)) → ∃ l : List α, l.length = n ∧ ∀ i (hi : i < l.length), R l[i] (V i) := by
 intro n
 induction n with
 | zero => intro _; exact ⟨[], rfl, fun i hi => by simp at hi⟩
 | succ n ih =>
  intro h
  obtain ⟨xs, h1, h2⟩ := ih (fun i hi => h i (by omega))
  obtain ⟨c, hc⟩ := h n (by omega)
  refine ⟨xs ++ [c], by simp [h1], fun i hi => ?_⟩
  by_cases hn : i < xs.length
  ·rw [List.getElem_append_left hn]; exact h2 i hn
  ·have : i = n := by simp at hi; omega
   subst this
   rw [List.getElem_append_right (by omega)]
   simpa [h1] using hc

theorem Seen.vwR {w : World} {a : Option Addr} {len cap : Nat} {V : Nat → Nat → Value} {l : List (Int × Int)} (hl : len ≤ cap) (hm : cap ≤ maxLen) (hs : Seen w a cap 2 V) (h1 : l.length = len) (h2 : ∀ i (hi : i < l.length), V i 0 = .int .u64 l[i].1 ∧ V i 1 = .int .u64 l[i].2) : Vw w a len cap 2 (Rgs l) := by
 refine ⟨hl, hm, by rw [Rgs_length, h1], ?_⟩
 rcases hs with h0 | ⟨b, off, rfl, hb, hc⟩
 ·have : l = [] := List.eq_nil_of_length_eq_zero (by omega)
  subst this
  exact .inl rfl
 ·refine .inr ⟨b, off, rfl, hb, fun j u hj => ?_⟩
  have hjl : j < l.length * 2 := by rw [← Rgs_length]; exact (List.getElem?_eq_some_iff.1 hj).1
  obtain ⟨i, hi⟩ : ∃ i, j = i * 2 ∨ j = i * 2 + 1 := ⟨j / 2, by omega⟩
  have hil : i < l.length := by omega
  obtain ⟨g0, g1⟩ := Rgs_get l i hil
  rcases hi with rfl | rfl
  ·rw [g0] at hj
   cases hj
   rw [← (h2 i hil).1]
   exact hc i 0 (by omega) (by omega)
  ·rw [g1] at hj
   cases hj
   rw [← (h2 i hil).2, ← Nat.add_assoc]
   exact hc i 1 (by omega) (by omega)
theorem Rd.ranges {w : World} {v : Value} (h : Rd Try.prog w 30 v) : ∃ a n cap l, v = .slice a n cap ∧ (∀ r ∈ l, inU r.1 ∧ inU r.2) ∧ ∀ w', Below w.heap.size w w' → Rv w' a n cap l := by
 obtain ⟨a, len, cap, V, rfl, hl, hm, hs, hv⟩ := h.slice Try.underlying30 Try.underlying54 (by kernel_rfl) (by kernel_rfl) (by decide)
 have each : ∀ i, i < len → ∃ r : Int × Int, (V i 0 = .int .u64 r.1 ∧ V i 1 = .int .u64 r.2) ∧ inU r.1 ∧ inU r.2 := by
  intro i hi
  obtain ⟨t, ht, hw⟩ := (hv i 0 _ (by omega) rfl).int Try.underlying29
  obtain ⟨u, hu, hw1⟩ := (hv i 1 _ (by omega) rfl).int Try.underlying29
  have g0 := wf_u64_iff hw
  have g1 := wf_u64_iff hw1
  exact ⟨(t, u), ⟨ht, hu⟩, ⟨g0.1, by have := g0.2; show t ≤ _; omega⟩, ⟨g1.1, by have := g1.2; show u ≤ _; omega⟩⟩
 obtain ⟨l, h1, h2⟩ := list_ofR (fun (r : Int × Int) (W : Nat → Value) => (W 0 = .int .u64 r.1 ∧ W 1 = .int .u64 r.2) ∧ inU r.1 ∧ inU r.2) V len each
 refine ⟨a, len, cap, l, rfl, fun r hr => ?_, fun w' hb => ⟨h1.symm, Seen.vwR hl hm (hs.keep hb (Nat.le_refl _)) h1 (fun i hi => (h2 i hi).1)⟩⟩
 obtain ⟨i, hi, rfl⟩ := List.getElem_of_mem hr
 exact (h2 i hi).2

/-- What the cells of a frame say. -/
def cells12 (f : Qf) (W : Nat → Value) : Prop := ∀ j v, f.cs[j]? = some v → W j = v
theorem Arg.qframes {w : World} {v : Value} (h : Arg Try.prog w 23 v) : ∃ a n cap l, v = .slice a n cap ∧ ∀ w', Below w.heap.size w w' → Qv w' a n cap l := by
 obtain ⟨a, len, cap, V, rfl, hl, hm, hs, hv⟩ := (h.rd_slice Try.underlying23).slice Try.underlying23 Try.underlying32 (by kernel_rfl) (by kernel_rfl) (by decide)
 have each : ∀ i, i < len → ∃ f : Qf, cells12 f (V i) ∧ ∀ w', Below w.heap.size w w' → Qin w' f := by
  intro i hi
  obtain ⟨t, e0, w0⟩ := (hv i 0 _ (by omega) rfl).int Try.underlying29
  obtain ⟨id, e1, w1⟩ := (hv i 1 _ (by omega) rfl).int Try.underlying29
  obtain ⟨off, e2, w2⟩ := (hv i 2 _ (by omega) rfl).int Try.underlying29
  obtain ⟨fin, e3⟩ := (hv i 3 _ (by omega) rfl).bool Try.underlying4
  obtain ⟨mx, e4, w4⟩ := (hv i 4 _ (by omega) rfl).int Try.underlying29
  obtain ⟨code, e5, w5⟩ := (hv i 5 _ (by omega) rfl).int Try.underlying29
  obtain ⟨delay, e6, w6⟩ := (hv i 6 _ (by omega) rfl).int Try.underlying29
  obtain ⟨ra, rn, rc, rs, e7, hrs, hk7⟩ := (hv i 7 _ (by omega) rfl).ranges
  obtain ⟨ba, bn, bc, xs, e8, hk8⟩ := (hv i 8 _ (by omega) rfl).bytesQ
  obtain ⟨uni, e9⟩ := (hv i 9 _ (by omega) rfl).bool Try.underlying4
  obtain ⟨app, e10⟩ := (hv i 10 _ (by omega) rfl).bool Try.underlying4
  obtain ⟨N, e11, w11⟩ := (hv i 11 _ (by omega) rfl).int Try.underlying3
  have g0 := wf_u64_iff w0
  have g1 := wf_u64_iff w1
  have g2 := wf_u64_iff w2
  have g4 := wf_u64_iff w4
  have g5 := wf_u64_iff w5
  have g6 := wf_u64_iff w6
  have g11 := wf_i64_iff w11
  refine ⟨⟨⟨t, id, off, fin, mx, code, delay, rs, xs, uni, app, N⟩, ra, rn, rc, ba, bn, bc⟩, fun j v hj => ?_, fun w' hb => ⟨hk8 w' hb, hk7 w' hb, ⟨⟨g0.1, by have := g0.2; show t ≤ _; omega⟩, ⟨g1.1, by have := g1.2; show id ≤ _; omega⟩, ⟨g2.1, by have := g2.2; show off ≤ _; omega⟩, ⟨g4.1, by have := g4.2; show mx ≤ _; omega⟩, ⟨g5.1, by have := g5.2; show code ≤ _; omega⟩, ⟨g6.1, by have := g6.2; show delay ≤ _; omega⟩, hrs, by show (-9223372036854775808 : Int) ≤ N; omega, by show N ≤ 9223372036854775807; omega⟩⟩⟩
  have hj12 : j < 12 := by
   rcases Nat.lt_or_ge j 12 with h' | h'
   ·exact h'
   ·rw [Array.getElem?_eq_none (by rw [Qf.size]; exact h')] at hj; cases hj
  match j, hj12 with
  | 0, _ => cases hj; exact e0
  | 1, _ => cases hj; exact e1
  | 2, _ => cases hj; exact e2
  | 3, _ => cases hj; exact e3
  | 4, _ => cases hj; exact e4
  | 5, _ => cases hj; exact e5
  | 6, _ => cases hj; exact e6
  | 7, _ => cases hj; exact e7
  | 8, _ => cases hj; exact e8
  | 9, _ => cases hj; exact e9
  | 10, _ => cases hj; exact e10
  | 11, _ => cases hj; exact e11
 obtain ⟨l, h1, h2⟩ := list_ofR (fun (f : Qf) (W : Nat → Value) => cells12 f W ∧ ∀ w', Below w.heap.size w w' → Qin w' f) V len each
 refine ⟨a, len, cap, l, rfl, fun w' hb => ⟨h1.symm, hl, hm, fun i hi => ?_⟩⟩
 obtain ⟨hc12, hq⟩ := h2 i hi
 refine ⟨?_, hq w' hb⟩
 rcases hs.keep hb (Nat.le_refl _) with h0 | ⟨b, off, rfl, hlt, hc⟩
 ·omega
 ·refine ⟨b, off, rfl, hlt, fun j v hj => ?_⟩
  have hj12 : j < 12 := by
   rcases Nat.lt_or_ge j 12 with h' | h'
   ·exact h'
   ·rw [Array.getElem?_eq_none (by rw [Qf.size]; exact h')] at hj; cases hj
  have := hc i j (by omega) hj12
  rw [hc12 j v hj] at this
  exact this

end Go.Proofs.Ytgfkgmmigbpciaa
