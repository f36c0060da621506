import Derived.Test.YtgfkgmmigbpciaaQrUa
import Derived.Test.YtgfkgmmigbpciaaQrUb
import Derived.Test.YtgfkgmmigbpciaaQrUc
import Derived.Test.YtgfkgmmigbpciaaQrUd
import Derived.Test.YtgfkgmmigbpciaaQrZ
import Derived.Test.YtgfkgmmigbpciaaQrA
import Derived.Test.YtgfkgmmigbpciaaQrO
import Derived.Test.YtgfkgmmigbpciaaQrMl
import Derived.Test.YtgfkgmmigbpciaaQfM
/- ReadFrame of the package bifoldref17, whole. -/
namespace Go.Proofs.Ytgfkgmmigbpciaa
set_option linter.unusedSimpArgs false
set_option linter.unusedVariables false
open Go.RowKit Go.Deep

theorem rf_all (a : Option Addr) (m cap : Nat) (xs : List UInt8) (t : Int) (ys1 : List UInt8) (w : World) (hb : By w a m cap xs) (hm : m ≤ 1000000) (hlt : ∀ b, a.map (·.block) = some b → b < w.heap.size) (hq : pn xs = some (t, ys1)) (hl : rvL xs = varLenV t) (hc : xs.headD 0 ≠ 0) (h0 : t ≠ 0) :
  Calls Try.prog 18 #[.slice a m cap] w (ReadP m (decT t ys1) w) := by
 refine rfR.2 a m cap xs t ys1 w hb hm hlt hq hl hc h0 fun ba off C V p1 rs rb fb DD w3 F => ?_
 by_cases g1 : t < 8
 ·exact rt_a F g1 h0
 by_cases g2 : t < 12
 ·exact rt_b1 F (by omega)
 by_cases g3 : t < 16
 ·exact rt_b2 F (by omega)
 by_cases g4 : t < 19
 ·exact rt_c1 F (by omega)
 by_cases g5 : t < 22
 ·exact rt_c2 F (by omega)
 by_cases g6 : t < 24
 ·exact rt_c3 F (by omega)
 by_cases g7 : t < 26
 ·exact rt_d1 F (by omega)
 by_cases g8 : t < 28
 ·exact rt_d2 F (by omega)
 ·exact rt_d3 F (by omega)

theorem rreadframe_any (a : Option Addr) (m cap : Nat) (xs : List UInt8) (w : World) (hb : By w a m cap xs) (hm : m ≤ 1000000) (hlt : ∀ b, a.map (·.block) = some b → b < w.heap.size) :
  Calls Try.prog 18 #[.slice a m cap] w (ReadP m (decQ xs) w) := by
 cases xs with
 | nil =>
  have h0 : m = 0 := hb.1
  subst h0
  rw [decQ_nil]
  exact rf_nil a cap w
 | cons c rest =>
  by_cases hc : c = 0
  ·subst hc
   rw [decQ_pad]
   exact rf_pad a m cap rest w hb hm hlt
  ·have hh : (c :: rest).headD 0 ≠ 0 := hc
   cases hq : pn (c :: rest) with
   | none =>
    have hD : decQ (c :: rest) = none := by unfold decQ; rw [pb_none _ hq]
    rw [hD]
    exact rf_bad a m cap _ w hb hm hlt hh (fun t y h => by rw [hq] at h; cases h)
   | some x =>
    obtain ⟨t, ys1⟩ := x
    by_cases hl : rvL (c :: rest) = varLenV t
    ·have hD : decQ (c :: rest) = decT t ys1 := by unfold decQ; rw [pb_some _ hq, if_pos hl]
     rw [hD]
     by_cases h0 : t = 0
     ·subst h0
      obtain ⟨r2, h⟩ := pn_nought hq hl
      cases h
      exact absurd rfl hc
     exact rf_all a m cap _ t ys1 w hb hm hlt hq hl hh h0
    ·have hD : decQ (c :: rest) = none := by unfold decQ; rw [pb_some _ hq, if_neg hl]
     rw [hD]
     exact rf_bad a m cap _ w hb hm hlt hh (fun t2 y h => by rw [hq] at h; cases h; exact hl)

end Go.Proofs.Ytgfkgmmigbpciaa

/- All of the package bifoldref17. -/
namespace Go.Proofs.Ytgfkgmmigbpciaa
set_option linter.unusedSimpArgs false
set_option linter.unusedVariables false
open Go.RowKit Go.Deep

/-- What is left is an end of what was there. -/
def SfO {α : Type} (ys : List UInt8) (r : Option (α × List UInt8)) : Prop := ∀ x, r = some x → ∃ k, x.2 = ys.drop k
theorem SfO.none {α : Type} (ys : List UInt8) : SfO (α := α) ys none := fun x h => by cases h
theorem SfO.some {α : Type} {ys : List UInt8} (v : α) (y : List UInt8) (h : ∃ k, y = ys.drop k) : SfO ys (some (v, y)) := fun x hx => by cases hx; exact h
theorem SfO.pn {ys y : List UInt8} (h : ∃ k, y = ys.drop k) : SfO ys (pn y) := fun x hx => by
 obtain ⟨v, z⟩ := x
 obtain ⟨_, _, _, k, _, _, hk, _⟩ := pn_bd hx
 obtain ⟨j, rfl⟩ := h
 exact ⟨j + k, by show z = _; rw [hk, List.drop_drop]⟩
theorem SfO.ptk {ys y : List UInt8} {n : Nat} (h : ∃ k, y = ys.drop k) : SfO ys (ptk n y) := fun x hx => by
 obtain ⟨v, z⟩ := x
 obtain ⟨j, rfl⟩ := h
 by_cases hn : n ≤ (ys.drop j).length
 ·rw [ptk_yes hn] at hx
  cases hx
  exact ⟨j + n, by rw [List.drop_drop]⟩
 ·rw [ptk_no hn] at hx; cases hx
theorem SfO.pb {α β : Type} {ys : List UInt8} {r : Option (α × List UInt8)} {f : α → List UInt8 → Option (β × List UInt8)} (h : SfO ys r) (hf : ∀ v y, (∃ k, y = ys.drop k) → SfO ys (f v y)) : SfO ys (pb r f) := by
 unfold Go.Proofs.Ytgfkgmmigbpciaa.pb
 cases r with
 | none => exact SfO.none ys
 | some x => exact hf x.1 x.2 (h x rfl)
theorem SfO.ite {α : Type} {ys : List UInt8} {c : Prop} [Decidable c] {r s : Option (α × List UInt8)} (h1 : SfO ys r) (h2 : SfO ys s) : SfO ys (if c then r else s) := by
 split
 ·exact h1
 ·exact h2
theorem SfO.ptx {ys y : List UInt8} (h : ∃ k, y = ys.drop k) : SfO ys (ptx y) := SfO.pb (SfO.pn h) (fun _ _ hy => SfO.ptk hy)
theorem SfO.prs {ys : List UInt8} : ∀ (k : Nat) (f : Int) (y : List UInt8), (∃ k, y = ys.drop k) → SfO ys (prs k f y)
 | 0, _, _, h => SfO.some _ _ h
 | k + 1, _, _, h => SfO.pb (SfO.pn h) (fun _ _ h1 => SfO.ite (SfO.none ys) (SfO.pb (SfO.pn h1) (fun _ _ h2 => SfO.ite (SfO.none ys) (SfO.pb (SfO.prs k _ _ h2) (fun _ _ h3 => SfO.some _ _ h3)))))
theorem SfO.dec (t : Int) (ys y : List UInt8) (h0 : ∃ k, y = ys.drop k) : SfO ys (decT t y) := by
 unfold decT othD padD oneD ackD resD stoD cryD tokD strD maxD msdD strsD nidD retD chaD cloD
 repeat' first
  | assumption
  | exact SfO.none _
  | (apply SfO.some; first | assumption | (obtain ⟨j, rfl⟩ := h0; exact ⟨j + _, List.drop_drop⟩) | exact ⟨ys.length, by rw [List.drop_length]⟩)
  | apply SfO.ite
  | (apply SfO.pb; · first | (apply SfO.pn; assumption) | (apply SfO.ptk; assumption) | (apply SfO.ptx; assumption) | (apply SfO.prs; assumption) | (apply SfO.ite <;> first | (apply SfO.pn; assumption) | (apply SfO.ptx; assumption) | (apply SfO.some; first | assumption | exact ⟨ys.length, by rw [List.drop_length]⟩)))
  | intro
end Go.Proofs.Ytgfkgmmigbpciaa

/- clean of the law. -/
namespace Go.Proofs.Ytgfkgmmigbpciaa
set_option linter.unusedSimpArgs false
set_option linter.unusedVariables false
open Go.RowKit Go.Deep

theorem zeros_rep : ∀ n : Nat, zeros (List.replicate n 0) = n
 | 0 => rfl
 | n + 1 => by
  have h := zeros_rep n
  rw [List.replicate_succ]
  simp [zeros, h]
theorem norm_0 {c : Qc} (h : c.t = 0) : norm c = ⟨0, 0, 0, false, 0, 0, 0, [], [], false, false, if c.N < 1 then 1 else c.N⟩ := by unfold norm; rw [if_pos h]
/-- A frame that is written is read back. -/
theorem dec_clean {c : Qc} {ys : List UInt8} (hw : c.wf) (hs : c.Small) (h : encQ c = some ys) : decQ ys = some (norm c, []) := by
 by_cases h0 : c.t = 0
 ·unfold encQ at h
  rw [if_pos h0] at h
  cases h
  obtain ⟨n, hn⟩ : ∃ n : Nat, (if c.N < 1 then 1 else c.N) = ((n + 1 : Nat) : Int) := by
   by_cases h1 : c.N < 1
   ·exact ⟨0, by rw [if_pos h1]; rfl⟩
   ·exact ⟨(c.N - 1).toNat, by rw [if_neg h1]; omega⟩
  rw [norm_0 h0, hn, Int.toNat_natCast, List.replicate_succ, decQ_pad]
  unfold padD
  rw [zeros_rep, List.drop_of_length_le (by rw [List.length_replicate]; exact Nat.le_refl _)]
  congr
 ·have h1 := dec_enc h0 hw hs h []
  rwa [List.append_nil] at h1
def ping : Qc := ⟨1, 0, 0, false, 0, 0, 0, [], [], false, false, 0⟩
def cleanQ (c : Qc) : Qc := match encQ c with
 | some _ => norm c
 | none => ping
theorem enc_one_noneC {f : Qf} (h : encQ f.c = none) : encsO [] [f] = none := by unfold encsO; simp [encsQ, h]
theorem enc_one_someC {f : Qf} {ys : List UInt8} (h : encQ f.c = some ys) : encsO [] [f] = some ys := by unfold encsO; simp [encsQ, h]

theorem clean_results (fr : Array Value) (w : World) (b : Nat) {u0 u1 u2 u3 u4 u5 u6 u7 u8 u9 u10 u11 : Value} {t : TypeId} (h2 : fr[2]?.getD undef = .pointer (some ⟨b, 0, none⟩)) (hb : Blk w b #[u0, u1, u2, u3, u4, u5, u6, u7, u8, u9, u10, u11] t) :
  (results Try.f13 fr).run Try.prog w = .ok (.agg #[u0, u1, u2, u3, u4, u5, u6, u7, u8, u9, u10, u11]) w := by
 obtain ⟨s0, s1, s2, s3, s4, s5, s6, s7, s8, s9, s10, s11⟩ := q12_cells hb
 simp [results, Try.results13, go_sem, h2, s0, s1, s2, s3, s4, s5, s6, s7, s8, s9, s10, s11]

set_option maxRecDepth 100000 in
set_option maxHeartbeats 3200000 in
theorem clean_any (f : Qf) (w : World) (hf : ∀ w', Below w.heap.size w w' → Qin w' f) (hs : f.c.Small) :
  Calls Try.prog 13 #[.agg f.cs] w fun e w' => Below w.heap.size w w' ∧ ∃ g : Qf, e = .returned (.agg g.cs) ∧ g.c = cleanQ f.c ∧ Qn w.heap.size w' g := by
 have HQI := Lib.hid hf
 have HSM := Lib.hid hs
 have HWF := Lib.hid (hf w (Below.refl _ _)).wf
 have HFL : Hid (f.n ≤ 1000) := Lib.hid (by have h1 := (hf w (Below.refl _ _)).b.1; have h2 := hs.b; omega)
 clear hf hs
 unfold Qf.cs
 go_enter Try.func13, Try.ntmps13
 go_upto_region 1 with fail
 refine wp_named ?_
 intro w1 hw1
 have HK1 : Hid (Below w.heap.size w w1) := Lib.hid (by rw [← hw1]; exact ((Below.refl _ w).alloc (Nat.le_refl _) _).alloc (by simp) _)
 have HF1 : Hid (Blk w1 w.heap.size #[.int .u64 f.c.t, .int .u64 f.c.id, .int .u64 f.c.off, .bool f.c.fin, .int .u64 f.c.mx, .int .u64 f.c.code, .int .u64 f.c.delay, .slice f.ra f.rn f.rc, .slice f.a f.n f.cap, .bool f.c.uni, .bool f.c.app, .int .i64 f.c.N] 32) := Lib.hid (by rw [← hw1]; exact (Blk.new _ _ _).alloc _)
 have HZ1 : Hid (Blk w1 (w.heap.size + 1) #[.int .u64 0, .int .u64 0, .int .u64 0, .bool false, .int .u64 0, .int .u64 0, .int .u64 0, .slice none 0 0, .slice none 0 0, .bool false, .bool false, .int .i64 0] 32) := Lib.hid (by
  rw [← hw1]
  have h := Blk.new (w.alloc (.cells #[.int .u64 f.c.t, .int .u64 f.c.id, .int .u64 f.c.off, .bool f.c.fin, .int .u64 f.c.mx, .int .u64 f.c.code, .int .u64 f.c.delay, .slice f.ra f.rn f.rc, .slice f.a f.n f.cap, .bool f.c.uni, .bool f.c.app, .int .i64 f.c.N] 32 (0, 0))) #[.int .u64 0, .int .u64 0, .int .u64 0, .bool false, .int .u64 0, .int .u64 0, .int .u64 0, .slice none 0 0, .slice none 0 0, .bool false, .bool false, .int .i64 0] 32
  rwa [World.size_alloc] at h)
 clear hw1
 obtain ⟨rs, hrs⟩ : ∃ rs, w.heap.size + 1 = rs := ⟨_, rfl⟩
 have HRS : Hid (w.heap.size < rs) := Lib.hid (by omega)
 rw [hrs] at HZ1 ⊢
 clear hrs
 obtain ⟨x0, x1, x2, x3, x4, x5, x6, x7, x8, x9, x10, x11⟩ := q12_cells HF1.out
 go_wp2_with fail
 clear x0 x1 x2 x3 x4 x5 x6 x7 x8 x9 x10 x11
 refine calls_named ?_
 intro w2 hw2
 have HK2 : Hid (Below w.heap.size w w2) := Lib.hid (by rw [← hw2]; exact HK1.out.alloc HK1.out.size _)
 have HR2 : Hid (Blk w2 w1.heap.size f.cs 32) := Lib.hid (by rw [← hw2]; exact Blk.new _ _ _)
 have HZ2 : Hid (Blk w2 rs #[.int .u64 0, .int .u64 0, .int .u64 0, .bool false, .int .u64 0, .int .u64 0, .int .u64 0, .slice none 0 0, .slice none 0 0, .bool false, .bool false, .int .i64 0] 32) := Lib.hid (by rw [← hw2]; exact HZ1.out.alloc _)
 clear hw2
 refine (rframes_any w2.heap.size none 0 0 [] (some ⟨w1.heap.size, 0, none⟩) 1 1 [f] w2 (Sb.nil _ _) (fun w' h => by
  refine Qv.blk ((Below.keeps h).blk HR2.out (by have := HR2.out.lt; omega)) [f] (by simp [qfs]) (by simp) (fun g hg => ?_)
  obtain rfl : g = f := by simpa using hg
  exact HQI.out w' (HK2.out.trans (h.mono HK2.out.size))) (fun g hg => by
  obtain rfl : g = f := by simpa using hg
  exact HSM.out) (by omega) (by simp) (Nat.le_refl _)).mono ?_
 intro e w3 h3
 have HK3 : Hid (Below w.heap.size w w3) := Lib.hid (HK2.out.trans (h3.below.mono HK2.out.size))
 have HZ3 : Hid (Blk w3 rs #[.int .u64 0, .int .u64 0, .int .u64 0, .bool false, .int .u64 0, .int .u64 0, .int .u64 0, .slice none 0 0, .slice none 0 0, .bool false, .bool false, .int .i64 0] 32) := Lib.hid ((Below.keeps h3.below).blk HZ2.out (by have := HZ2.out.lt; omega))
 obtain ⟨hk3, hr3⟩ := h3
 cases hen : encQ f.c with
 | none =>
  rw [enc_one_noneC hen] at hr3
  have hr' : e = .returned (.tuple #[.slice none 0 0, .int .i64 30]) := hr3
  subst hr'
  have HC : Hid (cleanQ f.c = ping) := Lib.hid (by unfold cleanQ; rw [hen])
  clear hr3 hk3 hen
  obtain ⟨t0, t1, t2, t3, t4, t5, t6, t7, t8, t9, t10, t11⟩ := q12_cells HZ3.out
  obtain ⟨z0, z1, z2, z3, z4, z5, z6, z7, z8, z9, z10, z11⟩ := q12_free HZ3.out
  go_wp2_with fail
  refine bodyPost_ret (v := ?_) ?_ (by kernel_rfl) ?_
  rotate_left
  ·exact clean_results _ _ rs (by kernel_rfl) (qs_blk HZ3.out _ _ _ _ _ _ _ _ _ _ _ _)
  refine ⟨Keeps.below HK3.out (qs_keep (b := rs) (S := fun k => k = rs) (Keeps.refl _ w3) (fun _ => rfl) (.int .u64 1) (.int .u64 0) (.int .u64 0) (.bool false) (.int .u64 0) (.int .u64 0) (.int .u64 0) (.slice none 0 0) (.slice none 0 0) (.bool false) (.bool false) (.int .i64 0)) HK3.out.size (fun k h => by have := HRS.out; omega), ⟨ping, none, 0, 0, none, 0, 0⟩, rfl, HC.out.symm, Qn.plain _ _ _ _ _ _ _ _ _ _ _ _ ⟨by omega, by omega⟩ inU_0 inU_0 inU_0 inU_0 inU_0 inU_0 (by omega)⟩
 | some ys =>
  rw [enc_one_someC hen] at hr3
  obtain ⟨a3, n3, c3, rfl, hs3, _⟩ := hr3
  have HC : Hid (cleanQ f.c = norm f.c) := Lib.hid (by unfold cleanQ; rw [hen])
  have HDE := Lib.hid (dec_clean HWF.out HSM.out hen)
  have hyl := encQ_len HSM.out hen
  have HS3 := Lib.hid hs3
  have HN3 : Hid (n3 = ys.length) := Lib.hid hs3.1.1
  clear hk3 hen hs3
  go_wp2_with fail
  refine (rreadframe_any a3 n3 c3 ys w3 HS3.out.1.by (by have := HN3.out; omega) HS3.out.2).mono ?_
  rintro e w4 ⟨hk4, hr4⟩
  rw [HDE.out] at hr4
  obtain ⟨g, hgc, rfl, hqn⟩ := hr4
  have HGC := Lib.hid hgc
  have HQN := Lib.hid hqn
  have HK4 : Hid (Below w.heap.size w w4) := Lib.hid (HK3.out.trans (hk4.mono HK3.out.size))
  have HZ4 : Hid (Blk w4 rs #[.int .u64 0, .int .u64 0, .int .u64 0, .bool false, .int .u64 0, .int .u64 0, .int .u64 0, .slice none 0 0, .slice none 0 0, .bool false, .bool false, .int .i64 0] 32) := Lib.hid ((Below.keeps hk4).blk HZ3.out (by have := HZ3.out.lt; omega))
  have HRS4 : Hid (rs < w3.heap.size) := Lib.hid HZ3.out.lt
  clear hk4 hgc hqn hyl
  unfold Qf.cs
  go_upto_region 5 with fail
  refine wp_named ?_
  intro w5 hw5
  have HA5 : Hid (Keeps (fun _ => False) w4 w5) := Lib.hid (by rw [← hw5]; exact (Keeps.refl _ _).alloc _)
  have HG5 : Hid (Blk w5 w4.heap.size g.cs 32) := Lib.hid (by rw [← hw5]; exact Blk.new _ _ _)
  have HZ5 := Lib.hid (HA5.out.blk HZ4.out (fun h => h))
  have HK5 : Hid (Below w.heap.size w w5) := Lib.hid (Keeps.below HK4.out HA5.out HK4.out.size (fun _ h => False.elim h))
  clear hw5
  have HG5' := HG5.out
  unfold Qf.cs at HG5'
  obtain ⟨x0, x1, x2, x3, x4, x5, x6, x7, x8, x9, x10, x11⟩ := q12_cells HG5'
  clear HG5'
  obtain ⟨t0, t1, t2, t3, t4, t5, t6, t7, t8, t9, t10, t11⟩ := q12_cells HZ5.out
  obtain ⟨z0, z1, z2, z3, z4, z5, z6, z7, z8, z9, z10, z11⟩ := q12_free HZ5.out
  go_wp2_with fail
  refine bodyPost_ret (v := ?_) ?_ (by kernel_rfl) ?_
  rotate_left
  ·exact clean_results _ _ rs (by kernel_rfl) (qs_blk HZ5.out _ _ _ _ _ _ _ _ _ _ _ _)
  have HKF := qs_keep (b := rs) (S := fun k => k = rs) (Keeps.refl _ w5) (fun _ => rfl) (.int .u64 g.c.t) (.int .u64 g.c.id) (.int .u64 g.c.off) (.bool g.c.fin) (.int .u64 g.c.mx) (.int .u64 g.c.code) (.int .u64 g.c.delay) (.slice g.ra g.rn g.rc) (.slice g.a g.n g.cap) (.bool g.c.uni) (.bool g.c.app) (.int .i64 g.c.N)
  refine ⟨Keeps.below HK5.out HKF HK5.out.size (fun k h => by have := HRS.out; omega), g, rfl, ?_, ((HQN.out.keep HA5.out (fun _ h => False.elim h)).keep HKF (fun b h1 h2 => by have := HRS4.out; omega)).mono HK3.out.size⟩
  rw [HC.out]
  exact HGC.out

end Go.Proofs.Ytgfkgmmigbpciaa

/- A frame that is cut off is none; a clean frame is written and read back: the plain law. -/
namespace Go.Proofs.Ytgfkgmmigbpciaa
set_option linter.unusedSimpArgs false
set_option linter.unusedVariables false
open Go.RowKit Go.Deep

/-- What is read at the front is read so, whatever stands behind. -/
def Ext {α : Type} (p : List UInt8 → Option (α × List UInt8)) : Prop := ∀ ys z x, p ys = some x → p (ys ++ z) = some (x.1, x.2 ++ z)
theorem Ext.none {α : Type} : Ext (α := α) (fun _ => none) := fun _ _ _ h => by cases h
theorem Ext.some {α : Type} (v : α) : Ext (fun ys => some (v, ys)) := fun _ _ _ h => by cases h; rfl
theorem Ext.pb {α β : Type} {p : List UInt8 → Option (α × List UInt8)} {f : α → List UInt8 → Option (β × List UInt8)} (h : Ext p) (hf : ∀ v, Ext (f v)) : Ext (fun ys => pb (p ys) f) := by
 intro ys z x hx
 dsimp only at hx ⊢
 cases hp : p ys with
 | none => rw [hp] at hx; cases hx
 | some u =>
  obtain ⟨v, y⟩ := u
  rw [hp] at hx
  rw [h ys z (v, y) hp]
  exact hf v y z x hx
theorem Ext.ite {α : Type} {c : Prop} [Decidable c] {p q : List UInt8 → Option (α × List UInt8)} (h1 : Ext p) (h2 : Ext q) : Ext (fun ys => if c then p ys else q ys) := by
 by_cases hc : c
 ·intro ys z x h; dsimp only at h ⊢; rw [if_pos hc] at h ⊢; exact h1 ys z x h
 ·intro ys z x h; dsimp only at h ⊢; rw [if_neg hc] at h ⊢; exact h2 ys z x h
theorem Ext.skip {α : Type} {c : Prop} [Decidable c] {p q : List UInt8 → Option (α × List UInt8)} (hc : ¬ c) (h2 : Ext q) : Ext (fun ys => if c then p ys else q ys) := by
 intro ys z x h; dsimp only at h ⊢; rw [if_neg hc] at h ⊢; exact h2 ys z x h
theorem Ext.ptk (n : Nat) : Ext (ptk n) := by
 intro ys z x h
 by_cases hn : n ≤ ys.length
 ·rw [ptk_yes hn] at h
  cases h
  rw [ptk_yes (by rw [List.length_append]; omega), List.take_append_of_le_length hn, List.drop_append_of_le_length hn]
 ·rw [ptk_no hn] at h; cases h
theorem rbV_app {xs z : List UInt8} {n : Int} (h : rbOK xs.length n = true) : rbV (xs ++ z) n = rbV xs n := by
 have h2 : rbOK (xs ++ z).length n = true := by simp only [rbOK, decide_eq_true_eq, List.length_append] at h ⊢; omega
 unfold rbV
 rw [h, h2, if_pos rfl, if_pos rfl, List.take_append_of_le_length (by simp only [rbOK, decide_eq_true_eq] at h; omega)]
theorem rv_app {ys z : List UInt8} (h : rvHave ys = true) : rvHave (ys ++ z) = true ∧ rvV (ys ++ z) = rvV ys ∧ rvL (ys ++ z) = rvL ys := by
 have hh := h
 simp only [rvHave, decide_eq_true_eq] at hh
 have hd : (ys ++ z).headD 0 = ys.headD 0 := by
  cases ys with
  | nil => simp at hh
  | cons c cs => rfl
 have h2 : rvHave (ys ++ z) = true := by
  simp only [rvHave, decide_eq_true_eq, hd, List.length_append]
  omega
 refine ⟨h2, ?_, ?_⟩
 ·unfold rvV
  rw [h, h2, if_pos rfl, if_pos rfl, hd]
  congr 1
  refine rbV_app ?_
  simp only [rbOK, decide_eq_true_eq]
  rcases rvN_cases (ys.headD 0) (ys.headD 0).toNat_lt with ⟨_, hn, _⟩ | ⟨_, _, hn, _⟩ | ⟨_, _, hn, _⟩ | ⟨_, hn, _⟩ <;> rw [hn] at hh ⊢ <;> omega
 ·unfold rvL
  rw [h, h2, if_pos rfl, if_pos rfl, hd]
theorem pn_have {ys : List UInt8} {x : Int × List UInt8} (h : pn ys = some x) : rvHave ys = true := by
 cases hh : rvHave ys with
 | true => rfl
 | false => unfold pn rvE at h; rw [hh] at h; simp at h
theorem Ext.pn : Ext pn := by
 intro ys z x h
 have hh := pn_have h
 obtain ⟨h1, h2, h3⟩ := rv_app (z := z) hh
 obtain ⟨v, y⟩ := x
 obtain ⟨_, _, _, k, hk, hkl, hy, _⟩ := pn_bd h
 unfold Go.Proofs.Ytgfkgmmigbpciaa.pn rvE at h ⊢
 rw [hh] at h
 rw [h1, h2, h3]
 cases h
 rw [if_pos rfl, if_pos rfl, List.drop_append_of_le_length (by rw [hk]; simpa using hkl)]
theorem Ext.ptx : Ext ptx := Ext.pb Ext.pn (fun n => Ext.ptk n.toNat)
theorem Ext.prs : ∀ (k : Nat) (f : Int), Ext (prs k f)
 | 0, _ => Ext.some _
 | k + 1, _ => Ext.pb Ext.pn (fun _ => Ext.ite Ext.none (Ext.pb Ext.pn (fun _ => Ext.ite Ext.none (Ext.pb (Ext.prs k _) (fun _ => Ext.some _)))))
/-- Which types of frames say where they end. -/
def tyC (t : Int) : Prop := t ≠ 0 ∧ t ≠ 8 ∧ t ≠ 9 ∧ t ≠ 12 ∧ t ≠ 13
theorem Ext.str (fin hasOff : Bool) : Ext (strD fin hasOff true) := by
 unfold strD
 refine Ext.pb Ext.pn fun _ => Ext.pb (Ext.ite Ext.pn (Ext.some _)) fun _ => Ext.pb Ext.ptx fun _ => Ext.ite (Ext.some _) Ext.none
theorem Ext.dec {t : Int} (h : tyC t) : Ext (decT t) := by
 obtain ⟨h0, h8, h9, h12, h13⟩ := h
 unfold decT
 unfold othD oneD ackD resD stoD cryD tokD maxD msdD strsD nidD retD chaD cloD
 repeat' first
  | exact Ext.none
  | exact Ext.some _
  | exact Ext.pn
  | exact Ext.ptk _
  | exact Ext.ptx
  | exact Ext.prs _ _
  | exact Ext.str _ _
  | (refine Ext.skip h0 ?_)
  | (refine Ext.skip h8 ?_)
  | (refine Ext.skip h9 ?_)
  | (refine Ext.skip h12 ?_)
  | (refine Ext.skip h13 ?_)
  | (refine Ext.ite ?_ ?_)
  | (refine Ext.pb ?_ ?_)
  | intro
theorem dec_more1 {ys z y r : List UInt8} {t : Int} {c : Qc} (hp : pn ys = some (t, y)) (ht : tyC t) (h : decQ ys = some (c, r)) : decQ (ys ++ z) = some (c, r ++ z) := by
 have h1 := Ext.pn ys z _ hp
 have h2 := (rv_app (z := z) (pn_have hp)).2.2
 unfold decQ at h ⊢
 rw [pb_some _ hp] at h
 rw [pb_some _ h1, h2]
 split at h
 ·rename_i hl
  rw [if_pos hl]
  exact Ext.dec ht y z _ h
 ·cases h
theorem plan_hd {c : Qc} {l : List Int} {tl : List UInt8} (h : planQ c = some (l, tl)) : ∃ t l2, l = t :: l2 ∧ tyC t ∧ 0 ≤ t := by
 by_cases h1 : c.t = 1
 ·rw [plan_1 h1] at h
  cases h; exact ⟨1, _, rfl, by unfold tyC; omega, by omega⟩
 by_cases h30 : c.t = 30
 ·rw [plan_30 h30] at h
  cases h; exact ⟨30, _, rfl, by unfold tyC; omega, by omega⟩
 by_cases h4 : c.t = 4
 ·rw [plan_4 h4] at h
  cases h; exact ⟨4, _, rfl, by unfold tyC; omega, by omega⟩
 by_cases h5 : c.t = 5
 ·rw [plan_5 h5] at h
  cases h; exact ⟨5, _, rfl, by unfold tyC; omega, by omega⟩
 by_cases h16 : c.t = 16
 ·rw [plan_16 h16] at h
  cases h; exact ⟨16, _, rfl, by unfold tyC; omega, by omega⟩
 by_cases h20 : c.t = 20
 ·rw [plan_20 h20] at h
  cases h; exact ⟨20, _, rfl, by unfold tyC; omega, by omega⟩
 by_cases h17 : c.t = 17
 ·rw [plan_17 h17] at h
  cases h; exact ⟨17, _, rfl, by unfold tyC; omega, by omega⟩
 by_cases h21 : c.t = 21
 ·rw [plan_21 h21] at h
  cases h; exact ⟨21, _, rfl, by unfold tyC; omega, by omega⟩
 by_cases h25 : c.t = 25
 ·rw [plan_25 h25] at h
  cases h; exact ⟨25, _, rfl, by unfold tyC; omega, by omega⟩
 by_cases h18 : c.t = 18
 ·rw [plan_18 h18] at h
  split at h
  ·cases h; exact ⟨18 + b2i c.uni, _, rfl, by have := b2i_bd c.uni; unfold tyC; omega, by have := b2i_bd c.uni; omega⟩
  ·cases h
 by_cases h22 : c.t = 22
 ·rw [plan_22 h22] at h
  split at h
  ·cases h; exact ⟨22 + b2i c.uni, _, rfl, by have := b2i_bd c.uni; unfold tyC; omega, by have := b2i_bd c.uni; omega⟩
  ·cases h
 by_cases h26 : c.t = 26
 ·rw [plan_26 h26] at h
  split at h
  ·cases h; exact ⟨26, _, rfl, by unfold tyC; omega, by omega⟩
  ·cases h
 by_cases h27 : c.t = 27
 ·rw [plan_27 h27] at h
  split at h
  ·cases h; exact ⟨27, _, rfl, by unfold tyC; omega, by omega⟩
  ·cases h
 by_cases h6 : c.t = 6
 ·rw [plan_6 h6] at h
  split at h
  ·cases h; exact ⟨6, _, rfl, by unfold tyC; omega, by omega⟩
  ·cases h
 by_cases h7 : c.t = 7
 ·rw [plan_7 h7] at h
  split at h
  ·cases h; exact ⟨7, _, rfl, by unfold tyC; omega, by omega⟩
  ·cases h
 by_cases h24 : c.t = 24
 ·rw [plan_24 h24] at h
  split at h
  ·cases h; exact ⟨24, _, rfl, by unfold tyC; omega, by omega⟩
  ·cases h
 by_cases h28 : c.t = 28
 ·rw [plan_28 h28] at h
  cases ha : c.app with
  | true => rw [ha, if_pos rfl] at h; cases h; exact ⟨29, _, rfl, by unfold tyC; omega, by omega⟩
  | false => rw [ha, if_neg (by decide)] at h; cases h; exact ⟨28, _, rfl, by unfold tyC; omega, by omega⟩
 by_cases h8 : c.t = 8
 ·rw [plan_8 h8] at h
  have hT : tyC (strT c) ∧ 0 ≤ strT c := by unfold strT b2i tyC; (repeat' split) <;> omega
  split at h
  ·split at h
   ·cases h; exact ⟨strT c, _, rfl, hT.1, hT.2⟩
   ·cases h; exact ⟨strT c, _, rfl, hT.1, hT.2⟩
  ·cases h
 by_cases h2 : c.t = 2
 ·rw [plan_2 h2] at h
  split at h
  ·rename_i hk
   cases h
   unfold ackOK at hk
   simp only [Bool.and_eq_true, decide_eq_true_eq] at hk
   cases hr : c.rs with
   | nil => rw [hr] at hk; simp at hk
   | cons r rs => exact ⟨2, _, rfl, by unfold tyC; omega, by omega⟩
  ·cases h
 rw [plan_no (by unfold typesQ; simp only [List.mem_cons, List.not_mem_nil, or_false, not_or]; exact ⟨h1, h30, h2, h4, h5, h6, h7, h8, h16, h20, h17, h21, h18, h22, h24, h25, h26, h27, h28⟩)] at h
 cases h
/-- A frame that is written begins with its type. -/
theorem enc_type {c : Qc} {ys : List UInt8} (h0 : c.t ≠ 0) (h : encQ c = some ys) : ∃ t y, pn ys = some (t, y) ∧ tyC t := by
 cases hp : planQ c with
 | none => exact (enc_none h0 hp h).elim
 | some x =>
  obtain ⟨l, tl⟩ := x
  obtain ⟨hv, rfl⟩ := enc_inv h0 hp h
  obtain ⟨t, l2, rfl, ht, h1⟩ := plan_hd hp
  exact ⟨t, _, pn_vs hv h1 tl, ht⟩
/-- A frame that is cut off anywhere is none. -/
theorem dec_cut {c : Qc} {ys : List UInt8} (h0 : c.t ≠ 0) (hw : c.wf) (hs : c.Small) (h : encQ c = some ys) (k : Nat) (hk : k < ys.length) : decQ (ys.take k) = none := by
 cases hq : decQ (ys.take k) with
 | none => rfl
 | some x =>
  obtain ⟨c2, r⟩ := x
  obtain ⟨t, y, hp, ht⟩ := enc_type h0 h
  cases hp2 : pn (ys.take k) with
  | none => unfold decQ at hq; rw [pb_none _ hp2] at hq; cases hq
  | some x2 =>
   obtain ⟨t2, y2⟩ := x2
   have h1 := Ext.pn _ (ys.drop k) _ hp2
   rw [List.take_append_drop, hp] at h1
   cases h1
   have h2 := dec_more1 (z := ys.drop k) hp2 ht hq
   rw [List.take_append_drop] at h2
   have h3 := dec_enc h0 hw hs h []
   rw [List.append_nil, h2] at h3
   have h4 : r ++ ys.drop k = [] := (Prod.mk.inj (Option.some.inj h3)).2
   have h5 := congrArg List.length h4
   rw [List.length_append, List.length_drop, List.length_nil] at h5
   omega
/-- A stream's bytes without a length are all that is left. -/
theorem dec_open (id : Int) (h0 : 0 ≤ id) (h1 : id ≤ 4611686018427387903) (data : List UInt8) (hd : data.length ≤ 1000) :
  decQ (varsR [9] [id] ++ data) = some (⟨8, id, 0, true, 0, 0, 0, [], data, false, false, 0⟩, []) := by
 have hv : varsOK [9, id] = true := by unfold varsOK; simp; omega
 have e : varsR [9] [id] = varsE [9, id] := by
  unfold varsR
  rw [if_pos (by unfold varsOK; simp; omega)]
  rfl
 rw [e, dec_type hv (by omega)]
 show strD true false false (varsE [id] ++ data) = _
 unfold strD
 rw [pb_some _ (pn_vs (vconsQ hv).2 h0 data), if_neg (by decide), pb_some _ rfl, if_neg (by decide), pb_some _ rfl]
 rw [show endB 0 (varsE [] ++ data).length = true by unfold endB; rw [varsE_nil]; simp; omega, if_pos rfl, varsE_nil]
theorem norm_enc {c : Qc} {ys : List UInt8} (h : encQ c = some ys) : encQ (norm c) = some ys ∧ norm (norm c) = norm c ∧ (norm c).t = c.t := by
 by_cases h0 : c.t = 0
 ·rw [norm_0 h0]
  unfold encQ at h ⊢
  rw [if_pos h0] at h
  dsimp only
  rw [if_pos rfl]
  refine ⟨?_, ?_, h0.symm⟩
  ·rw [← h]
   congr 3
   split <;> rfl
  ·rw [norm_0 rfl]
   congr 1
   dsimp only
   split <;> rfl
 rw [encQ_plan h0] at h
 by_cases h1 : c.t = 1
 ·have e : norm c = ⟨1, 0, 0, false, 0, 0, 0, [], [], false, false, 0⟩ := by unfold norm; simp [h1]
  rw [plan_1 h1] at h
  rw [e, encQ_plan (by show (1 : Int) ≠ 0; omega), plan_1 rfl, h1]
  exact ⟨h, rfl, rfl⟩
 by_cases h30 : c.t = 30
 ·have e : norm c = ⟨30, 0, 0, false, 0, 0, 0, [], [], false, false, 0⟩ := by unfold norm; simp [h30]
  rw [plan_30 h30] at h
  rw [e, encQ_plan (by show (30 : Int) ≠ 0; omega), plan_30 rfl, h30]
  exact ⟨h, rfl, rfl⟩
 by_cases h4 : c.t = 4
 ·have e : norm c = ⟨4, c.id, 0, false, c.mx, c.code, 0, [], [], false, false, 0⟩ := by unfold norm; simp [h4]
  rw [plan_4 h4] at h
  rw [e, encQ_plan (by show (4 : Int) ≠ 0; omega), plan_4 rfl, h4]
  exact ⟨h, rfl, rfl⟩
 by_cases h5 : c.t = 5
 ·have e : norm c = ⟨5, c.id, 0, false, 0, c.code, 0, [], [], false, false, 0⟩ := by unfold norm; simp [h5]
  rw [plan_5 h5] at h
  rw [e, encQ_plan (by show (5 : Int) ≠ 0; omega), plan_5 rfl, h5]
  exact ⟨h, rfl, rfl⟩
 by_cases h16 : c.t = 16
 ·have e : norm c = ⟨16, 0, 0, false, c.mx, 0, 0, [], [], false, false, 0⟩ := by unfold norm; simp [h16]
  rw [plan_16 h16] at h
  rw [e, encQ_plan (by show (16 : Int) ≠ 0; omega), plan_16 rfl, h16]
  exact ⟨h, rfl, rfl⟩
 by_cases h20 : c.t = 20
 ·have e : norm c = ⟨20, 0, 0, false, c.mx, 0, 0, [], [], false, false, 0⟩ := by unfold norm; simp [h20]
  rw [plan_20 h20] at h
  rw [e, encQ_plan (by show (20 : Int) ≠ 0; omega), plan_20 rfl, h20]
  exact ⟨h, rfl, rfl⟩
 by_cases h17 : c.t = 17
 ·have e : norm c = ⟨17, c.id, 0, false, c.mx, 0, 0, [], [], false, false, 0⟩ := by unfold norm; simp [h17]
  rw [plan_17 h17] at h
  rw [e, encQ_plan (by show (17 : Int) ≠ 0; omega), plan_17 rfl, h17]
  exact ⟨h, rfl, rfl⟩
 by_cases h21 : c.t = 21
 ·have e : norm c = ⟨21, c.id, 0, false, c.mx, 0, 0, [], [], false, false, 0⟩ := by unfold norm; simp [h21]
  rw [plan_21 h21] at h
  rw [e, encQ_plan (by show (21 : Int) ≠ 0; omega), plan_21 rfl, h21]
  exact ⟨h, rfl, rfl⟩
 by_cases h25 : c.t = 25
 ·have e : norm c = ⟨25, c.id, 0, false, 0, 0, 0, [], [], false, false, 0⟩ := by unfold norm; simp [h25]
  rw [plan_25 h25] at h
  rw [e, encQ_plan (by show (25 : Int) ≠ 0; omega), plan_25 rfl, h25]
  exact ⟨h, rfl, rfl⟩
 by_cases h18 : c.t = 18
 ·have e : norm c = ⟨18, 0, 0, false, c.mx, 0, 0, [], [], c.uni, false, 0⟩ := by unfold norm; simp [h18]
  rw [plan_18 h18] at h
  rw [e, encQ_plan (by show (18 : Int) ≠ 0; omega), plan_18 rfl, h18]
  exact ⟨h, rfl, rfl⟩
 by_cases h22 : c.t = 22
 ·have e : norm c = ⟨22, 0, 0, false, c.mx, 0, 0, [], [], c.uni, false, 0⟩ := by unfold norm; simp [h22]
  rw [plan_22 h22] at h
  rw [e, encQ_plan (by show (22 : Int) ≠ 0; omega), plan_22 rfl, h22]
  exact ⟨h, rfl, rfl⟩
 by_cases h26 : c.t = 26
 ·have e : norm c = ⟨26, 0, 0, false, 0, 0, 0, [], c.xs, false, false, 0⟩ := by unfold norm; simp [h26]
  rw [plan_26 h26] at h
  rw [e, encQ_plan (by show (26 : Int) ≠ 0; omega), plan_26 rfl, h26]
  exact ⟨h, rfl, rfl⟩
 by_cases h27 : c.t = 27
 ·have e : norm c = ⟨27, 0, 0, false, 0, 0, 0, [], c.xs, false, false, 0⟩ := by unfold norm; simp [h27]
  rw [plan_27 h27] at h
  rw [e, encQ_plan (by show (27 : Int) ≠ 0; omega), plan_27 rfl, h27]
  exact ⟨h, rfl, rfl⟩
 by_cases h6 : c.t = 6
 ·have e : norm c = ⟨6, 0, c.off, false, 0, 0, 0, [], c.xs, false, false, 0⟩ := by unfold norm; simp [h6]
  rw [plan_6 h6] at h
  rw [e, encQ_plan (by show (6 : Int) ≠ 0; omega), plan_6 rfl, h6]
  exact ⟨h, rfl, rfl⟩
 by_cases h7 : c.t = 7
 ·have e : norm c = ⟨7, 0, 0, false, 0, 0, 0, [], c.xs, false, false, 0⟩ := by unfold norm; simp [h7]
  rw [plan_7 h7] at h
  rw [e, encQ_plan (by show (7 : Int) ≠ 0; omega), plan_7 rfl, h7]
  exact ⟨h, rfl, rfl⟩
 by_cases h24 : c.t = 24
 ·have e : norm c = ⟨24, c.id, 0, false, c.mx, 0, 0, [], c.xs, false, false, 0⟩ := by unfold norm; simp [h24]
  rw [plan_24 h24] at h
  rw [e, encQ_plan (by show (24 : Int) ≠ 0; omega), plan_24 rfl, h24]
  exact ⟨h, rfl, rfl⟩
 by_cases h28 : c.t = 28
 ·have e : norm c = ⟨28, 0, (if c.app then 0 else c.off), false, 0, c.code, 0, [], c.xs, false, c.app, 0⟩ := by unfold norm; simp [h28]
  rw [plan_28 h28] at h
  rw [e, encQ_plan (by show (28 : Int) ≠ 0; omega), plan_28 rfl, h28]
  refine ⟨?_, ?_, rfl⟩
  ·rw [← h]; cases c.app <;> rfl
  ·cases c.app <;> rfl
 by_cases h8 : c.t = 8
 ·have e : norm c = ⟨8, c.id, c.off, c.fin, 0, 0, 0, [], c.xs, false, false, 0⟩ := by unfold norm; simp [h8]
  rw [plan_8 h8] at h
  rw [e, encQ_plan (by show (8 : Int) ≠ 0; omega), plan_8 rfl, h8]
  exact ⟨h, rfl, rfl⟩
 by_cases h2 : c.t = 2
 ·have e : norm c = ⟨2, 0, 0, false, 0, 0, c.delay, c.rs, [], false, false, 0⟩ := by unfold norm; simp [h2]
  rw [plan_2 h2] at h
  rw [e, encQ_plan (by show (2 : Int) ≠ 0; omega), plan_2 rfl, h2]
  exact ⟨h, rfl, rfl⟩
 rw [plan_no (by unfold typesQ; simp only [List.mem_cons, List.not_mem_nil, or_false, not_or]; exact ⟨h1, h30, h2, h4, h5, h6, h7, h8, h16, h20, h17, h21, h18, h22, h24, h25, h26, h27, h28⟩)] at h
 cases h
theorem small_ite {p : Prop} [Decidable p] {a b : Qc} (ha : a.Small) (hb : b.Small) : (if p then a else b).Small := by
 split
 ·exact ha
 ·exact hb
theorem norm_small {c : Qc} (hs : c.Small) : (norm c).Small := by
 obtain ⟨h1, h2, h3⟩ := hs
 have zx : ([] : List UInt8).length ≤ 1000 := by decide
 have zr : ([] : List (Int × Int)).length ≤ 100 := by decide
 have z0 : (0 : Int) ≤ 10000 := by decide
 have zn : (if c.N < 1 then 1 else c.N) ≤ 10000 := by split <;> omega
 unfold norm
 repeat' first
  | exact ⟨h1, zr, z0⟩
  | exact ⟨zx, h2, z0⟩
  | exact ⟨zx, zr, z0⟩
  | exact ⟨zx, zr, zn⟩
  | apply small_ite
/-- What clean answers is written, and read back. -/
theorem clean_back {c : Qc} (hw : c.wf) (hs : c.Small) (hw2 : (cleanQ c).wf) : (cleanQ c).Small ∧ norm (cleanQ c) = cleanQ c ∧ ∃ ys, encQ (cleanQ c) = some ys ∧ decQ ys = some (cleanQ c, []) ∧ 0 < ys.length ∧ ys.length ≤ 20000 := by
 have key : (cleanQ c).Small ∧ norm (cleanQ c) = cleanQ c ∧ ∃ ys, encQ (cleanQ c) = some ys := by
  unfold cleanQ
  cases he : encQ c with
  | none => exact ⟨(show ping.Small from ⟨by decide, by decide, by decide⟩), rfl, [1], rfl⟩
  | some ys => exact ⟨norm_small hs, (norm_enc he).2.1, ys, (norm_enc he).1⟩
 obtain ⟨k1, k2, ys, k3⟩ := key
 have hd := dec_clean hw2 k1 k3
 rw [k2] at hd
 refine ⟨k1, k2, ys, k3, hd, ?_, encQ_len k1 k3⟩
 cases ys with
 | nil => rw [decQ_nil] at hd; cases hd
 | cons u us => simp

end Go.Proofs.Ytgfkgmmigbpciaa

/- append on bytes that live on. -/
namespace Go.Proofs.Ytgfkgmmigbpciaa
set_option linter.unusedSimpArgs false
set_option linter.unusedVariables false
open Go.RowKit Go.Deep Go.WideShapes

theorem run_app2 {P : Program} (w : World) (base : Nat) (t tx ty e : TypeId) (i : TypeInfo) (z : Value) (size bytes : Nat) (ht : P.underlying t = some (.slice e)) (hi : P.info? e = some i) (hz : i.zero = some z)
  (hsize : i.size = size) (hby : i.bytes = bytes) (hzs : z.cells.size = size)
  (a : Option Addr) (n cap : Nat) (cs : List Value) (hd : Dst base e size w a n cap cs) (x : Value) (m : Nat) (news : List Value) (hs : Src P size tx x m news w)
  (h63 : n + m ≤ maxLen) (hbytes : (n + m) * bytes ≤ 140737488355328) (hbase : base ≤ w.heap.size) :
  ∃ a' cap' w', (Builtin.append_ #[t, tx] ty #[.slice a n cap, x]).run P w = .ok (.slice a' (n + m) cap') w' ∧ Dst base e size w' a' (n + m) cap' (cs ++ news) ∧
   Keeps (fun k => base ≤ k ∧ a.map (·.block) = some k) w w' ∧ (∀ k, a'.map (·.block) = some k → a' = a ∨ (w.heap.size ≤ k ∧ base ≤ k)) ∧ (0 < m → w'.ownsRow base e size (.slice a' (n + m) cap') (n + m) (cs ++ news)) ∧ Dst base e size w' a n cap cs := by
 subst hsize
 subst hby
 have hsmall : n + m ≤ 9223372036854775807 := by simp only [maxLen] at h63; omega
 have hvw := hd.vw
 have hlen : (cs ++ news).length = (n + m) * i.size := by rw [List.length_append, hvw.len, hs.newsLen, Nat.add_mul]
 by_cases hm : m = 0
 ·subst hm
  obtain rfl : news = [] := List.eq_nil_of_length_eq_zero (by simpa using hs.newsLen)
  exact ⟨a, cap, w, run_append_nothing w t tx ty e i ht hi a n cap hvw.le x hs, by simpa using hd, Keeps.refl _ _, fun k _ => .inl rfl, fun h => absurd h (Nat.lt_irrefl 0), hd⟩
 ·-- a new row
  have grown : cap < n + m → ∃ a' cap' w', (Builtin.append_ #[t, tx] ty #[.slice a n cap, x]).run P w = .ok (.slice a' (n + m) cap') w' ∧ Dst base e i.size w' a' (n + m) cap' (cs ++ news) ∧
   Keeps (fun k => base ≤ k ∧ a.map (·.block) = some k) w w' ∧ (∀ k, a'.map (·.block) = some k → a' = a ∨ (w.heap.size ≤ k ∧ base ≤ k)) ∧ (0 < m → w'.ownsRow base e i.size (.slice a' (n + m) cap') (n + m) (cs ++ news)) ∧ Dst base e i.size w' a n cap cs := by
   intro hg
   have hold : (Builtin.firstCells i.size n (.slice a n cap)).run P w.drew = .ok cs.toArray w.drew := by
    rcases hvw.at_ with rfl | ⟨b, off, rfl, hb, hc⟩
    ·have e0 : n * i.size = 0 := hvw.len.symm
     cases a <;> simp [Builtin.firstCells, e0, loadCells, loadCellsFrom]
    ·exact run_firstCells_some w.drew i.size n _ n cap cs hvw.len (fun j u hj => by rw [add_plain]; simpa using hc j u hj)
   have hr := run_append_grow_src (P := P) w t tx ty e i z ht hi hz a n cap cs hold x m news hs hg (by omega) (growslice_fits hg hbytes)
   have hge := grownCap_ge w (n + m) cap e
   have hcm : grownCap w (n + m) cap e ≤ maxLen := grownCap_le_maxLen w (n + m) cap e h63
   have hown : (w.drew.alloc (.cells ((cs ++ news).toArray ++ Builtin.zeroCells z.cells (grownCap w (n + m) cap e - (n + m))) e)).ownsRow base e i.size
     (.slice (some ⟨w.heap.size, 0, none⟩) (n + m) (grownCap w (n + m) cap e)) (n + m) (cs ++ news) := by
    refine ⟨hlen, .inr ⟨w.heap.size, _, _, rfl, hbase, heap_alloc_new w.drew _, hge, hcm, ?_, ?_⟩⟩
    ·simp only [Array.size_append, List.size_toArray, size_zeroCells, hzs, hlen, ← Nat.add_mul]
     congr 1
     omega
    ·simp only [Array.toList_append]
     rw [← hlen]
     exact List.take_left
   refine ⟨_, _, _, hr, .inl hown, ⟨rfl, rfl, rfl, by simp, fun k hk _ => Below.heap_alloc w.drew _ k hk⟩, fun k hk => .inr ?_, fun _ => hown, hd.keep (S := fun _ => False) ⟨rfl, rfl, rfl, by simp, fun k hk _ => Below.heap_alloc w.drew _ k hk⟩ (fun _ _ h => h)⟩
   simp at hk
   omega
  by_cases hroom : n + m ≤ cap
  ·rcases hd with hown | ⟨rfl, _⟩
   ·rcases hown.2 with ⟨hv, h0⟩ | ⟨g, cap', cur, hv, hbg, hg, hnc, hcm, hcs, htake⟩
    ·cases hv; omega
    ·cases hv
     have hfit : n * i.size + news.length ≤ cur.size := by rw [hs.newsLen, hcs, ← Nat.add_mul]; exact Nat.mul_le_mul_right _ hroom
     have hr := run_append_room_own (P := P) w t tx ty e i ht hi g n cap cur hg x m news hs hroom hfit
     have hown' : (w.setRow g (cur.toList.take (n * i.size) ++ news ++ cur.toList.drop (n * i.size + news.length)).toArray).ownsRow base e i.size (.slice (some ⟨g, 0, none⟩) (n + m) cap) (n + m) (cs ++ news) := by
      refine ⟨hlen, .inr ⟨g, cap, _, rfl, hbg, setRow_heap w g cur _ e _ hg, hroom, hcm, ?_, ?_⟩⟩
      ·simp only [List.size_toArray, List.length_append, List.length_take, List.length_drop, Array.length_toList]
       omega
      ·rw [htake, ← hlen]
       exact List.take_left
     exact ⟨_, _, _, hr, .inl hown', ⟨rfl, rfl, rfl, by simp, fun k _ hk => setRow_other w g k _ (fun e => hk (by subst e; exact ⟨hbg, rfl⟩))⟩, fun k _ => .inl rfl, fun _ => hown', .inl ⟨hown.1, .inr ⟨g, cap, _, rfl, hbg, setRow_heap w g cur _ e _ hg, hnc, hcm, by
      simp only [List.size_toArray, List.length_append, List.length_take, List.length_drop, Array.length_toList]
      omega, by
      rw [htake, hown.1.symm, List.append_assoc]
      exact List.take_left⟩⟩⟩
   ·omega
  ·exact grown (by omega)


/-- append on bytes; what was appended to lives on. -/
theorem wpList_app8b (w : World) {ops : Array Oper} {rest : List Oper} {o : Oper} {ac : Act} {Q : Exit → Act → World → Prop} (hg : o.guard = none) (s x : Operand) (tx : TypeId)
  (hop : o.op = Op.call { callee := Callee.builtin Builtin.append, args := #[s, x], argTypes := #[22, tx] }) (base : Nat)
  (a : Option Addr) (n cap : Nat) (xs : List UInt8) (hs : ac.eval s = .slice a n cap) (hd : Bd base w a n cap xs) (u : Value) (hx : ac.eval x = u) (ys : List UInt8) (hsrc : Src Try.prog 1 tx u ys.length (Bs ys) w)
  (b1 : n + ys.length ≤ 140737488355328) (hb : base ≤ w.heap.size)
  (hK : ∀ a' cap' w', Bd base w' a' (n + ys.length) cap' (xs ++ ys) → Keeps (mine base a) w w' → Near base w a a' → Bd base w' a n cap xs → wpList Try.prog ops Q rest (ac.put o.dst (.slice a' (n + ys.length) cap')) w') : wpList Try.prog ops Q (o :: rest) ac w := by
 obtain ⟨i, hi, hz, hs1, hs2⟩ := info_parts info8
 have hn := hd.1
 refine wpList_plain hg fun K hK' => ?_
 obtain ⟨a', cap', w', hrun, r1, r2, r3, r4, r5⟩ := run_app2 (P := Try.prog) w base 22 tx o.type 5 i _ 1 1 Try.underlying22 hi hz hs1 hs2 rfl a n cap (Bs xs) hd.2 u ys.length (Bs ys) hsrc (by simp only [maxLen]; omega) (by omega) hb
 unfold Oper.wp
 simp [execOp, hop, resolve, invoke, builtin, hs, hx, hrun, Result.andThen]
 rw [Bs_append] at r1
 exact hK' _ _ (hK a' cap' w' ⟨by simp; omega, r1⟩ r2 r3 ⟨hn, r5⟩)

end Go.Proofs.Ytgfkgmmigbpciaa
