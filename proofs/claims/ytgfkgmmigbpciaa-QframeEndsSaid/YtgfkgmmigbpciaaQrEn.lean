/- The walk of QframeEnds. -/
import Derived.Test.YtgfkgmmigbpciaaQrR
import Derived.Test.YtgfkgmmigbpciaaQrI
import Derived.Test.YtgfkgmmigbpciaaQrMl
namespace Go.Proofs.Ytgfkgmmigbpciaa
set_option linter.unusedSimpArgs false
set_option linter.unusedVariables false
open Go.RowKit Go.Deep

/-- A struct of fields of one cell each, by value. -/
theorem Arg.fields {P : Program} {w : World} {t : TypeId} {v : Value} {fs : Array Field} (h : Arg P w t v) (ht : P.underlying t = some (.struct fs)) (hone : oneCellFields P fs = true) (hC : P.cellsOf t = fs.size) :
  ∃ cs : Array Value, v = .agg cs ∧ cs.size = fs.size ∧ ∀ (j : Nat) (f : Field), fs[j]? = some f → ∃ u, cs[j]? = some u ∧ Rd P w f.type u := by
 obtain ⟨⟨base, hv⟩, H, enc, d, p, fuel, hf⟩ := h
 obtain ⟨cs, rfl, hsz⟩ := WideShapes.okWide_struct ht hv
 refine ⟨cs, rfl, hsz.trans hC, fun j f hj => ?_⟩
 obtain ⟨ys, n2, _, _, _, hyl, hff⟩ := DataW.trod_struct ht hf
 obtain ⟨ho, hk⟩ := hone_of hone j f hj
 have hjl : j < fs.size := (Array.getElem?_eq_some_iff.1 hj).1
 have hjc : j < cs.size := by rw [hsz, hC]; exact hjl
 have hjt : j < cs.toList.length := by simpa using hjc
 have h1 := hff j f hj
 rw [ho, hk] at h1
 have e2 : ((Value.agg cs).cells.toList.drop j).take 1 = [cs[j]] := by
  show (cs.toList.drop j).take 1 = _
  rw [List.drop_eq_getElem_cons hjt, List.take_succ_cons, List.take_zero]
  simp
 rw [e2] at h1
 exact ⟨cs[j], Array.getElem?_eq_getElem hjc, H, enc, n2, ys[j]'(by omega), by rw [h1]; exact List.getElem?_eq_getElem (by omega)⟩
theorem array12Q {cs : Array Value} (h : cs.size = 12) : ∃ c0 c1 c2 c3 c4 c5 c6 c7 c8 c9 c10 c11, cs = #[c0, c1, c2, c3, c4, c5, c6, c7, c8, c9, c10, c11] := by
 obtain ⟨l⟩ := cs
 match l, h with
 | [c0, c1, c2, c3, c4, c5, c6, c7, c8, c9, c10, c11], _ => exact ⟨c0, c1, c2, c3, c4, c5, c6, c7, c8, c9, c10, c11, rfl⟩
/-- An argument that is a frame. -/
theorem Arg.qframe {w : World} {v : Value} (h : Arg Try.prog w 32 v) : ∃ f : Qf, v = .agg f.cs ∧ ∀ w', Below w.heap.size w w' → Qin w' f := by
 obtain ⟨cs, rfl, hsz, hf⟩ := Arg.fields h Try.underlying32 (by kernel_rfl) (by kernel_rfl)
 obtain ⟨c0, c1, c2, c3, c4, c5, c6, c7, c8, c9, c10, c11, rfl⟩ := array12Q hsz
 obtain ⟨u0, e0, r0⟩ := hf 0 _ rfl
 cases e0
 obtain ⟨u1, e1, r1⟩ := hf 1 _ rfl
 cases e1
 obtain ⟨u2, e2, r2⟩ := hf 2 _ rfl
 cases e2
 obtain ⟨u3, e3, r3⟩ := hf 3 _ rfl
 cases e3
 obtain ⟨u4, e4, r4⟩ := hf 4 _ rfl
 cases e4
 obtain ⟨u5, e5, r5⟩ := hf 5 _ rfl
 cases e5
 obtain ⟨u6, e6, r6⟩ := hf 6 _ rfl
 cases e6
 obtain ⟨u7, e7, r7⟩ := hf 7 _ rfl
 cases e7
 obtain ⟨u8, e8, r8⟩ := hf 8 _ rfl
 cases e8
 obtain ⟨u9, e9, r9⟩ := hf 9 _ rfl
 cases e9
 obtain ⟨u10, e10, r10⟩ := hf 10 _ rfl
 cases e10
 obtain ⟨u11, e11, r11⟩ := hf 11 _ rfl
 cases e11
 obtain ⟨t, rfl, w0⟩ := Rd.int (w := w) r0 Try.underlying29
 obtain ⟨id, rfl, w1⟩ := Rd.int (w := w) r1 Try.underlying29
 obtain ⟨off, rfl, w2⟩ := Rd.int (w := w) r2 Try.underlying29
 obtain ⟨fin, rfl⟩ := Rd.bool (w := w) r3 Try.underlying4
 obtain ⟨mx, rfl, w4⟩ := Rd.int (w := w) r4 Try.underlying29
 obtain ⟨code, rfl, w5⟩ := Rd.int (w := w) r5 Try.underlying29
 obtain ⟨delay, rfl, w6⟩ := Rd.int (w := w) r6 Try.underlying29
 obtain ⟨ra, rn, rc, rs, rfl, hrs, hk7⟩ := Rd.ranges (w := w) r7
 obtain ⟨ba, bn, bc, xs, rfl, hk8⟩ := Rd.bytesQ (w := w) r8
 obtain ⟨uni, rfl⟩ := Rd.bool (w := w) r9 Try.underlying4
 obtain ⟨app, rfl⟩ := Rd.bool (w := w) r10 Try.underlying4
 obtain ⟨N, rfl, w11⟩ := Rd.int (w := w) r11 Try.underlying3
 have g0 := wf_u64_iff w0
 have g1 := wf_u64_iff w1
 have g2 := wf_u64_iff w2
 have g4 := wf_u64_iff w4
 have g5 := wf_u64_iff w5
 have g6 := wf_u64_iff w6
 have g11 := wf_i64_iff w11
 exact ⟨⟨⟨t, id, off, fin, mx, code, delay, rs, xs, uni, app, N⟩, ra, rn, rc, ba, bn, bc⟩, rfl, fun w' hb => ⟨hk8 w' hb, hk7 w' hb, ⟨⟨g0.1, by have := g0.2; show t ≤ _; omega⟩, ⟨g1.1, by have := g1.2; show id ≤ _; omega⟩, ⟨g2.1, by have := g2.2; show off ≤ _; omega⟩, ⟨g4.1, by have := g4.2; show mx ≤ _; omega⟩, ⟨g5.1, by have := g5.2; show code ≤ _; omega⟩, ⟨g6.1, by have := g6.2; show delay ≤ _; omega⟩, hrs, by show (-9223372036854775808 : Int) ≤ N; omega, by show N ≤ 9223372036854775807; omega⟩⟩⟩

theorem and62E (t : Int) (h0 : 0 ≤ t) (h1 : t ≤ 18446744073709551615) : bits .and .u64 t 4611686018427387903 = t % 4611686018427387904 := by
 have := and64 62 (a := t) (m := 4611686018427387903) h0 (by omega) (by omega) (by simp)
 rw [this]
 simp
theorem By.preQ {w : World} {a : Option Addr} {n cap k : Nat} {xs : List UInt8} (h : By w a n cap xs) (hk : k ≤ n) : By w a k cap (xs.take k) := by
 have h1 := h.1
 have e : Bs (xs.take k) = (Bs xs).take k := by simp [Bs, List.map_take]
 refine ⟨by rw [List.length_take]; omega, ⟨by have := h.2.le; omega, h.2.max, by simp [Bs, List.length_take]; omega, ?_⟩⟩
 rcases h.2.at_ with h0 | ⟨b, off, ha, hb, hc⟩
 ·exact .inl (by rw [e, h0, List.take_nil])
 ·refine .inr ⟨b, off, ha, hb, fun j v hj => hc j v ?_⟩
  rw [e, List.getElem?_take] at hj
  split at hj
  ·exact hj
  ·cases hj
theorem open_len (I : Int) (h : I ≤ 4611686018427387903) : 1 ≤ (varsR [9] [I]).length ∧ (varsR [9] [I]).length ≤ 9 := by
 unfold varsR
 rw [if_pos (by unfold varsOK; simp; omega), List.length_append]
 have := varsE_len [I]
 simp only [List.length_cons, List.length_nil] at this ⊢
 omega

set_option maxRecDepth 100000 in
set_option maxHeartbeats 12800000 in
theorem walkQframeEnds (w : World) (v0 : Value) (h0 : Arg Try.prog w 32 v0) (at_ : Int) (w1 : (Lit.int .u16 at_).wf = true) (id : Int) (w2 : (Lit.int .u64 id).wf = true) (v3 : Value) (h3 : Arg Try.prog w 22 v3) :
  Calls Try.prog 8 #[v0, .int .u16 at_, .int .u64 id, v3] w fun e w' => e = .returned (.bool true) ∧ Below w.heap.size w w' := by
 obtain ⟨f, rfl, hqi⟩ := h0.qframe
 obtain ⟨p0, p1⟩ := wf_u16_iff w1
 obtain ⟨i0, i1⟩ := wf_u64_iff w2
 obtain ⟨da, dn, dc, xs, rfl, hb, hbb⟩ := h3.bytes
 obtain ⟨I, hI⟩ : ∃ I, bits .and .u64 id 4611686018427387903 = I := ⟨_, rfl⟩
 have HI : Hid (0 ≤ I ∧ I ≤ 4611686018427387903) := Lib.hid (by rw [← hI, and62E id i0 (by omega)]; omega)
 have HQI := Lib.hid hqi
 have HBB := Lib.hid hbb
 have HN := Lib.hid hb.1
 have hcap := hb.2.le
 have hmax := hb.2.max
 unfold maxLen at hmax
 clear hb hbb h0 h3 w1 w2 hqi
 unfold Qf.cs
 go_enter Try.func8, Try.ntmps8
 go_wp2_with fail
 refine calls_named ?_
 intro w1 hw1
 have HK1 : Hid (Below w.heap.size w w1) := Lib.hid (by rw [← hw1]; exact (Below.refl _ w).alloc (Nat.le_refl _) _)
 have HF1 : Hid (Blk w1 w.heap.size f.cs 32) := Lib.hid (by rw [← hw1]; exact Blk.new _ _ _)
 clear hw1
 refine (known_any w1).mono ?_
 rintro e w2 ⟨rfl, hk2⟩
 have HK2 : Hid (Below w.heap.size w w2) := Lib.hid (HK1.out.trans (hk2.mono HK1.out.size))
 have HF2 : Hid (Blk w2 w.heap.size f.cs 32) := Lib.hid ((Below.keeps hk2).blk HF1.out (by have := HF1.out.lt; omega))
 clear hk2
 have hF2 := HF2.out
 unfold Qf.cs at hF2
 obtain ⟨x0, x1, x2, x3, x4, x5, x6, x7, x8, x9, x10, x11⟩ := q12_cells hF2
 clear hF2
 go_wp2_with fail
 clear x0 x1 x2 x3 x4 x5 x6 x7 x8 x9 x10 x11
 refine calls_named ?_
 intro w3 hw3
 have HK3 : Hid (Below w.heap.size w w3) := Lib.hid (by rw [← hw3]; exact HK2.out.alloc HK2.out.size _)
 have HF3 : Hid (Blk w3 w.heap.size f.cs 32) := Lib.hid (by rw [← hw3]; exact HF2.out.alloc _)
 have HG3 : Hid (Blk w3 w2.heap.size f.cs 32) := Lib.hid (by rw [← hw3]; exact Blk.new _ _ _)
 clear hw3
 refine (light_any (some ⟨w2.heap.size, 0, none⟩) 1 1 [f] w3 (Qv.blk HG3.out [f] (by simp [qfs]) (by simp) (fun g hg => by
  obtain rfl : g = f := by simpa using hg
  exact HQI.out w3 HK3.out))).mono ?_
 rintro e w' ⟨rfl, rfl⟩
 cases hlt : lightB [f] with
 | false =>
  clear hlt
  go_wp2_with fail
  go_returns
  exact ⟨rfl, HK3.out⟩
 | true =>
 have HSM : Hid f.c.Small := Lib.hid (light_small ((lightB_bd hlt).2 f (by simp)))
 clear hlt
 by_cases hn : dn ≤ 100
 rotate_left
 ·have hd : decide ((100 : Int) < (dn : Int)) = true := by simp; omega
  have hd2 : decide (100 < dn) = true := by simp; omega
  clear hn
  go_wp2_with fail
  go_returns
  exact ⟨rfl, HK3.out⟩
 have hd : decide ((100 : Int) < (dn : Int)) = false := by simp; omega
 have hd2 : decide (100 < dn) = false := by simp; omega
 have hF3 := HF3.out
 unfold Qf.cs at hF3
 obtain ⟨x0, x1, x2, x3, x4, x5, x6, x7, x8, x9, x10, x11⟩ := q12_cells hF3
 clear hF3
 go_wp2_with fail
 clear x0 x1 x2 x3 x4 x5 x6 x7 x8 x9 x10 x11
 refine (clean_any f w3 (fun w' h => HQI.out w' (HK3.out.trans (h.mono HK3.out.size))) HSM.out).mono ?_
 rintro e w4 ⟨hk4, g, rfl, hgc, hqn⟩
 obtain ⟨hgs, _, ys, hen, hde, hyp, hyl⟩ : (g.c).Small ∧ norm g.c = g.c ∧ ∃ ys, encQ g.c = some ys ∧ decQ ys = some (g.c, []) ∧ 0 < ys.length ∧ ys.length ≤ 20000 := by
  rw [hgc]
  exact clean_back (HQI.out w (Below.refl _ _)).wf HSM.out (by rw [← hgc]; exact hqn.q.wf)
 have HGS : Hid g.c.Small := Lib.hid hgs
 have HDE := Lib.hid hde
 have HEN := Lib.hid hen
 have HYL : Hid (0 < ys.length ∧ ys.length ≤ 20000) := Lib.hid ⟨hyp, hyl⟩
 have HQN := Lib.hid hqn
 have HK4 : Hid (Below w.heap.size w w4) := Lib.hid (HK3.out.trans (hk4.mono HK3.out.size))
 have HSZ4 : Hid (w.heap.size ≤ w4.heap.size ∧ w3.heap.size ≤ w4.heap.size) := Lib.hid ⟨HK4.out.size, hk4.size⟩
 clear hk4 hgc hqn hgs hen hde hyp hyl hd hd2
 unfold Qf.cs
 go_upto_region 6 with fail
 refine wp_named ?_
 intro w5 hw5
 have HA5 : Hid (Keeps (fun _ => False) w4 w5) := Lib.hid (by rw [← hw5]; exact (Keeps.refl _ _).alloc _)
 have HG5 : Hid (Blk w5 w4.heap.size g.cs 32) := Lib.hid (by rw [← hw5]; exact Blk.new _ _ _)
 have HK5 : Hid (Below w.heap.size w w5) := Lib.hid (Keeps.below HK4.out HA5.out HK4.out.size (fun _ h => False.elim h))
 clear hw5
 have hG5 := HG5.out
 unfold Qf.cs at hG5
 obtain ⟨x0, x1, x2, x3, x4, x5, x6, x7, x8, x9, x10, x11⟩ := q12_cells hG5
 clear hG5
 go_wp2_with fail
 clear x0 x1 x2 x3 x4 x5 x6 x7 x8 x9 x10 x11
 refine calls_named ?_
 intro w6 hw6
 have HA6 : Hid (Keeps (fun _ => False) w4 w6) := Lib.hid (by rw [← hw6]; exact HA5.out.alloc _)
 have HK6 : Hid (Below w.heap.size w w6) := Lib.hid (by rw [← hw6]; exact HK5.out.alloc HK5.out.size _)
 have HB6 : Hid (Blk w6 w4.heap.size g.cs 32) := Lib.hid (by rw [← hw6]; exact HG5.out.alloc _)
 have HR6 : Hid (Blk w6 w5.heap.size g.cs 32) := Lib.hid (by rw [← hw6]; exact Blk.new _ _ _)
 clear hw6
 refine (qwrite_any none 0 0 [] (some ⟨w5.heap.size, 0, none⟩) 1 1 [g] w6 (By.nil _) (fun w' h => by
  refine Qv.blk ((Below.keeps h).blk HR6.out (by have := HR6.out.lt; omega)) [g] (by simp [qfs]) (by simp) (fun u hu => ?_)
  obtain rfl : u = g := by simpa using hu
  exact (HQN.out.q.keep HA6.out (fun _ _ h => h) (fun _ _ h => h)).keep (Below.keeps h) (fun b hb hS => by have h1 := (HQN.out.hb b hb).2; have h2 := HA6.out.size; omega) (fun b hb hS => by have h1 := (HQN.out.hr b hb).2; have h2 := HA6.out.size; omega)) (fun u hu => by
  obtain rfl : u = g := by simpa using hu
  exact HGS.out) (by omega) (by simp)).mono ?_
 rintro e w7 ⟨hk7, hr7⟩
 have HK7 : Hid (Below w.heap.size w w7) := Lib.hid (HK6.out.trans (hk7.mono HK6.out.size))
 have HB7 : Hid (Blk w7 w4.heap.size g.cs 32) := Lib.hid ((Below.keeps hk7).blk HB6.out (by have := HB6.out.lt; omega))
 rw [enc_one_someC HEN.out] at hr7
 obtain ⟨a7, n7, c7, rfl, ho7⟩ := hr7
 have HO7 := Lib.hid ho7
 have HN7 : Hid (n7 = ys.length) := Lib.hid ho7.1
 have hn7 : 0 < n7 := by have := HYL.out; have := HN7.out; omega
 have hn72 : n7 ≤ 20000 := by have := HYL.out; have := HN7.out; omega
 have hc7 := ho7.by.2.le
 have hm7 := ho7.by.2.max
 unfold maxLen at hm7
 clear ho7 hk7
 have hx0 := (q12_cells HB7.out).1
 have HCUT : Hid (g.c.t ≠ 0 → ∀ k, k < ys.length → decQ (ys.take k) = none) := Lib.hid (fun h0 k hk => dec_cut h0 HQN.out.q.wf HGS.out HEN.out k hk)
 obtain ⟨t, ht⟩ : ∃ t, g.c.t = t := ⟨_, rfl⟩
 rw [ht] at hx0 HCUT
 clear ht
 by_cases h0 : t = 0
 ·have hd1 : (t != 0) = false := by simp [h0]
  have hd3 : (t == 0) = true := by simp [h0]
  have hd4 : decide (t = 0) = true := by simp [h0]
  clear h0
  go_wp2_with fail
  refine calls_named ?_
  intro w9 hw9
  have HK9 : Hid (Below w.heap.size w w9) := Lib.hid (by rw [← hw9]; exact (HK7.out.alloc HK7.out.size _).alloc (Nat.le_trans HK7.out.size (by simp)) _)
  have HB9 : Hid (By w9 (some ⟨w7.heap.size, 0, none⟩) 1 1 [9]) := Lib.hid (by rw [← hw9]; exact (By.new w7 [9] _ _ (by simp) rfl).alloc _)
  have HU9 : Hid (Uv w9 (some ⟨w7.heap.size + 1, 0, none⟩) 1 1 [I]) := Lib.hid (by
   rw [← hw9]
   have h := Uv.one (w7.alloc (.cells #[.int .u8 9] 5)) 29 I HI.out.1 (by have := HI.out.2; omega)
   rwa [World.size_alloc] at h)
  clear hw9 hI
  have HDE9 := Lib.hid (dec_open I HI.out.1 HI.out.2 xs (by have := HN.out; omega))
  have HSL := Lib.hid (open_len I HI.out.2)
  refine (varsr_b w9.heap.size (some ⟨w7.heap.size, 0, none⟩) 1 1 [9] (some ⟨w7.heap.size + 1, 0, none⟩) 1 1 [I] w9 HB9.out.full HU9.out (Nat.le_refl _) (Or.inl rfl) (by omega) (by omega)).mono ?_
  rintro e w10 ⟨a10, n10, c10, rfl, hd10, hk10⟩
  generalize varsR [9] [I] = S at *
  generalize varsErr [I] = E9 at *
  have HK10 : Hid (Below w.heap.size w w10) := Lib.hid (HK9.out.trans (hk10.mono HK9.out.size))
  have HD10 := Lib.hid hd10
  have HS10 : Hid (w9.heap.size ≤ w10.heap.size ∧ w.heap.size ≤ w9.heap.size) := Lib.hid ⟨hk10.size, HK9.out.size⟩
  have hn10 : 1 ≤ n10 ∧ n10 ≤ 9 := by have h1 := HSL.out; have h2 := hd10.1; omega
  have HL10 : Hid (∀ b, a10.map (·.block) = some b → b < w10.heap.size) := Lib.hid (hd10.by.2.lt (by omega))
  clear hd10 hk10
  go_wp2_with (at_builtin; refine halt ?_)
  refine Halted.go (wpList_app8b w10 rfl _ _ 22 rfl w9.heap.size a10 n10 c10 S rfl HD10.out _ rfl xs (Eq.subst (motive := fun k => Src Try.prog 1 22 (.slice da dn dc) k (Bs xs) w10) HN.out ((HBB.out w10 HK10.out).2.src Try.underlying22 (Bs_one xs))) (by have := HN.out; omega) HS10.out.1 ?_)
  intro a11 c11 w11 hd11 hk11 hn11 hs11
  have HK11 : Hid (Below w.heap.size w w11) := Lib.hid (Keeps.mine_below HK10.out hk11 HK10.out.size HS10.out.2)
  have HD11 := Lib.hid hd11
  have HS11 := Lib.hid hs11
  have HZ11 : Hid (w10.heap.size ≤ w11.heap.size) := Lib.hid hk11.size
  clear hd11 hk11 hn11 hs11
  obtain ⟨m11, hm11⟩ : ∃ m, n10 + xs.length = m := ⟨_, rfl⟩
  have hm112 : 1 ≤ m11 ∧ m11 ≤ 1000 := by have := HN.out; omega
  rw [hm11] at HD11 ⊢
  have HM11 := Lib.hid hm11
  clear hm11
  go_wp2_with fail
  refine (qread_any a11 m11 c11 (S ++ xs) w11 HD11.out.by (by omega) (HD11.out.by.2.lt (by omega))).mono ?_
  rintro e w12 ⟨hk12, hr12⟩
  rw [HDE9.out] at hr12
  obtain ⟨x, hxc, rfl, hqx⟩ := hr12
  have HXC := Lib.hid hxc
  have HQX := Lib.hid hqx
  have HK12 : Hid (Below w.heap.size w w12) := Lib.hid (HK11.out.trans (hk12.mono HK11.out.size))
  have HS12 : Hid (Bd w9.heap.size w12 a10 n10 c10 S) := Lib.hid (HS11.out.keep (Below.keeps hk12) (fun b hb h => by have h1 := HL10.out b hb; have h2 := HZ11.out; omega))
  have HZ12 : Hid (w11.heap.size ≤ w12.heap.size) := Lib.hid hk12.size
  clear hk12 hxc hqx
  dsimp only [List.length_nil, Nat.sub_zero]
  unfold Qf.cs
  go_upto_region 13 with fail
  refine wp_named ?_
  intro w13 hw13
  have HA13 : Hid (Keeps (fun _ => False) w12 w13) := Lib.hid (by rw [← hw13]; exact (Keeps.refl _ _).alloc _)
  have HX13 : Hid (Blk w13 w12.heap.size x.cs 32) := Lib.hid (by rw [← hw13]; exact Blk.new _ _ _)
  have HK13 : Hid (Below w.heap.size w w13) := Lib.hid (Keeps.below HK12.out HA13.out HK12.out.size (fun _ h => False.elim h))
  have HS13 := Lib.hid (HS12.out.keep HA13.out (fun _ _ h => h))
  clear hw13
  go_wp2_with (at_builtin; refine halt ?_)
  refine Halted.go (wpList_app8b w13 rfl _ _ 22 rfl w9.heap.size a10 n10 c10 S rfl HS13.out _ rfl xs (Eq.subst (motive := fun k => Src Try.prog 1 22 (.slice da dn dc) k (Bs xs) w13) HN.out ((HBB.out w13 HK13.out).2.src Try.underlying22 (Bs_one xs))) (by have := HN.out; omega) (by have h1 := HS10.out.1; have h2 := HZ11.out; have h3 := HZ12.out; have h4 := HA13.out.size; omega) ?_)
  intro a14 c14 w14 hd14 hk14 hn14 hs14
  have HK14 : Hid (Below w.heap.size w w14) := Lib.hid (Keeps.mine_below HK13.out hk14 HK13.out.size HS10.out.2)
  have HD14 := Lib.hid hd14
  have HX14 : Hid (Blk w14 w12.heap.size x.cs 32) := Lib.hid (hk14.blk HX13.out (fun h => by have h1 := HL10.out _ h.2; have h2 := HZ11.out; have h3 := HZ12.out; omega))
  have HQ14 : Hid (By w14 x.a x.n x.cap x.c.xs) := Lib.hid ((HQX.out.q.b.keep HA13.out (fun _ _ h => h)).keep hk14 (fun b hb h => by have h1 := HL10.out _ h.2; have h2 := HZ11.out; have h3 := (HQX.out.hb b hb).1; omega))
  have HL14 : Hid (∀ b, x.a.map (·.block) = some b → b < w14.heap.size) := Lib.hid (fun b hb => by have h1 := (HQX.out.hb b hb).2; have h2 := HA13.out.size; have h3 := hk14.size; omega)
  clear hd14 hk14 hn14 hs14
  obtain ⟨m14, hm14⟩ : ∃ m, n10 + xs.length = m := ⟨_, rfl⟩
  have hm142 : m14 = m11 := by have := HM11.out; omega
  subst hm142
  rw [hm14] at HD14 ⊢
  clear hm14
  go_wp2_with fail
  refine (rreadframe_any a14 m14 c14 (S ++ xs) w14 HD14.out.by (by omega) (HD14.out.by.2.lt (by omega))).mono ?_
  rintro e w15 ⟨hk15, hr15⟩
  rw [HDE9.out] at hr15
  obtain ⟨y, hyc, rfl, hqy⟩ := hr15
  have HYC := Lib.hid hyc
  have HK15 : Hid (Below w.heap.size w w15) := Lib.hid (HK14.out.trans (hk15.mono HK14.out.size))
  have HX15 : Hid (Blk w15 w12.heap.size x.cs 32) := Lib.hid ((Below.keeps hk15).blk HX14.out (by have := HX14.out.lt; omega))
  have HQ15 := Lib.hid (HQ14.out.keep (Below.keeps hk15) (fun b hb h => by have h1 := HL14.out b hb; omega))
  clear hk15 hyc hqy
  dsimp only [List.length_nil, Nat.sub_zero]
  unfold Qf.cs
  go_upto_region 14 with fail
  refine wp_named ?_
  intro w16 hw16
  have HA16 : Hid (Keeps (fun _ => False) w15 w16) := Lib.hid (by rw [← hw16]; exact (Keeps.refl _ _).alloc _)
  have HY16 : Hid (Blk w16 w15.heap.size y.cs 32) := Lib.hid (by rw [← hw16]; exact Blk.new _ _ _)
  have HX16 := Lib.hid (HA16.out.blk HX15.out (fun h => h))
  have HQ16 := Lib.hid (HQ15.out.keep HA16.out (fun _ _ h => h))
  have HK16 : Hid (Below w.heap.size w w16) := Lib.hid (Keeps.below HK15.out HA16.out HK15.out.size (fun _ h => False.elim h))
  clear hw16
  have z1 : w16.cell? ⟨w12.heap.size, 1, none⟩ = some (.int .u64 I) := by have h := HX16.out.cell 1; rw [show x.cs[1]? = some (.int .u64 x.c.id) from rfl, HXC.out] at h; exact h
  have z3 : w16.cell? ⟨w12.heap.size, 3, none⟩ = some (.bool true) := by have h := HX16.out.cell 3; rw [show x.cs[3]? = some (.bool x.c.fin) from rfl, HXC.out] at h; exact h
  have z8 : w16.cell? ⟨w12.heap.size, 8, none⟩ = some (.slice x.a x.n x.cap) := HX16.out.cell 8
  have y1 : w16.cell? ⟨w15.heap.size, 1, none⟩ = some (.int .u64 I) := by have h := HY16.out.cell 1; rw [show y.cs[1]? = some (.int .u64 y.c.id) from rfl, HYC.out] at h; exact h
  have HXB : Hid (By w16 x.a x.n x.cap xs) := Lib.hid (by have h := HQ16.out; rw [HXC.out] at h; exact h)
  go_wp2_with fail
  refine By.upon HXB.out ?_
  go_wp2_with fail
  refine By.upon (HBB.out w16 HK16.out) ?_
  go_wp2_with fail
  go_returns
  exact ⟨rfl, HK16.out⟩
 ·have hd1 : (t != 0) = true := by simp [h0]
  have hd3 : (t == 0) = false := by simp [h0]
  have hd4 : decide (t = 0) = false := by simp [h0]
  have HC : Hid (∀ k, k < ys.length → decQ (ys.take k) = none) := Lib.hid (HCUT.out h0)
  obtain ⟨k, hk⟩ : ∃ k : Nat, at_ % (n7 : Int) = (k : Int) := ⟨(at_ % (n7 : Int)).toNat, by have := Int.emod_nonneg at_ (show (n7 : Int) ≠ 0 by omega); omega⟩
  have hkn : k < n7 := by have := Int.emod_lt_of_pos at_ (show (0 : Int) < (n7 : Int) by omega); omega
  have hk1 : (k : Int) ≤ (c7 : Int) := by omega
  have hk0 : (0 : Int) ≤ (k : Int) := by omega
  clear h0
  go_wp2_with fail
  clear hk
  refine (qread_any a7 k c7 (ys.take k) w7 (by
   exact HO7.out.by.preQ (by omega)) (by omega) (fun b hb => (HO7.out.ge b hb).2)).mono ?_
  rintro e w8 ⟨hk8, hr8⟩
  rw [HC.out k (by have := HN7.out; omega)] at hr8
  have hr' : e = .returned (.tuple #[.agg #[.int .u64 0, .int .u64 0, .int .u64 0, .bool false, .int .u64 0, .int .u64 0, .int .u64 0, .slice none 0 0, .slice none 0 0, .bool false, .bool false, .int .i64 0], .int .i64 0, .int .i64 30]) := hr8
  subst hr'
  have HK8a : Hid (Below w.heap.size w w8) := Lib.hid (HK7.out.trans (hk8.mono HK7.out.size))
  clear hk8 hr8 hk0 hk1 hkn
  go_upto_region 9 with fail
  refine wp_named ?_
  intro w8b hw8
  have HK8 : Hid (Below w.heap.size w w8b) := Lib.hid (by rw [← hw8]; exact HK8a.out.alloc HK8a.out.size _)
  clear hw8
  go_wp2_with fail
  refine calls_named ?_
  intro w9 hw9
  have HK9 : Hid (Below w.heap.size w w9) := Lib.hid (by rw [← hw9]; exact (HK8.out.alloc HK8.out.size _).alloc (Nat.le_trans HK8.out.size (by simp)) _)
  have HB9 : Hid (By w9 (some ⟨w8b.heap.size, 0, none⟩) 1 1 [9]) := Lib.hid (by rw [← hw9]; exact (By.new w8b [9] _ _ (by simp) rfl).alloc _)
  have HU9 : Hid (Uv w9 (some ⟨w8b.heap.size + 1, 0, none⟩) 1 1 [I]) := Lib.hid (by
   rw [← hw9]
   have h := Uv.one (w8b.alloc (.cells #[.int .u8 9] 5)) 29 I HI.out.1 (by have := HI.out.2; omega)
   rwa [World.size_alloc] at h)
  clear hw9 hI
  have HDE9 := Lib.hid (dec_open I HI.out.1 HI.out.2 xs (by have := HN.out; omega))
  have HSL := Lib.hid (open_len I HI.out.2)
  refine (varsr_b w9.heap.size (some ⟨w8b.heap.size, 0, none⟩) 1 1 [9] (some ⟨w8b.heap.size + 1, 0, none⟩) 1 1 [I] w9 HB9.out.full HU9.out (Nat.le_refl _) (Or.inl rfl) (by omega) (by omega)).mono ?_
  rintro e w10 ⟨a10, n10, c10, rfl, hd10, hk10⟩
  generalize varsR [9] [I] = S at *
  generalize varsErr [I] = E9 at *
  have HK10 : Hid (Below w.heap.size w w10) := Lib.hid (HK9.out.trans (hk10.mono HK9.out.size))
  have HD10 := Lib.hid hd10
  have HS10 : Hid (w9.heap.size ≤ w10.heap.size ∧ w.heap.size ≤ w9.heap.size) := Lib.hid ⟨hk10.size, HK9.out.size⟩
  have hn10 : 1 ≤ n10 ∧ n10 ≤ 9 := by have h1 := HSL.out; have h2 := hd10.1; omega
  have HL10 : Hid (∀ b, a10.map (·.block) = some b → b < w10.heap.size) := Lib.hid (hd10.by.2.lt (by omega))
  clear hd10 hk10
  go_wp2_with (at_builtin; refine halt ?_)
  refine Halted.go (wpList_app8b w10 rfl _ _ 22 rfl w9.heap.size a10 n10 c10 S rfl HD10.out _ rfl xs (Eq.subst (motive := fun k => Src Try.prog 1 22 (.slice da dn dc) k (Bs xs) w10) HN.out ((HBB.out w10 HK10.out).2.src Try.underlying22 (Bs_one xs))) (by have := HN.out; omega) HS10.out.1 ?_)
  intro a11 c11 w11 hd11 hk11 hn11 hs11
  have HK11 : Hid (Below w.heap.size w w11) := Lib.hid (Keeps.mine_below HK10.out hk11 HK10.out.size HS10.out.2)
  have HD11 := Lib.hid hd11
  have HS11 := Lib.hid hs11
  have HZ11 : Hid (w10.heap.size ≤ w11.heap.size) := Lib.hid hk11.size
  clear hd11 hk11 hn11 hs11
  obtain ⟨m11, hm11⟩ : ∃ m, n10 + xs.length = m := ⟨_, rfl⟩
  have hm112 : 1 ≤ m11 ∧ m11 ≤ 1000 := by have := HN.out; omega
  rw [hm11] at HD11 ⊢
  have HM11 := Lib.hid hm11
  clear hm11
  go_wp2_with fail
  refine (qread_any a11 m11 c11 (S ++ xs) w11 HD11.out.by (by omega) (HD11.out.by.2.lt (by omega))).mono ?_
  rintro e w12 ⟨hk12, hr12⟩
  rw [HDE9.out] at hr12
  obtain ⟨x, hxc, rfl, hqx⟩ := hr12
  have HXC := Lib.hid hxc
  have HQX := Lib.hid hqx
  have HK12 : Hid (Below w.heap.size w w12) := Lib.hid (HK11.out.trans (hk12.mono HK11.out.size))
  have HS12 : Hid (Bd w9.heap.size w12 a10 n10 c10 S) := Lib.hid (HS11.out.keep (Below.keeps hk12) (fun b hb h => by have h1 := HL10.out b hb; have h2 := HZ11.out; omega))
  have HZ12 : Hid (w11.heap.size ≤ w12.heap.size) := Lib.hid hk12.size
  clear hk12 hxc hqx
  dsimp only [List.length_nil, Nat.sub_zero]
  unfold Qf.cs
  go_upto_region 13 with fail
  refine wp_named ?_
  intro w13 hw13
  have HA13 : Hid (Keeps (fun _ => False) w12 w13) := Lib.hid (by rw [← hw13]; exact (Keeps.refl _ _).alloc _)
  have HX13 : Hid (Blk w13 w12.heap.size x.cs 32) := Lib.hid (by rw [← hw13]; exact Blk.new _ _ _)
  have HK13 : Hid (Below w.heap.size w w13) := Lib.hid (Keeps.below HK12.out HA13.out HK12.out.size (fun _ h => False.elim h))
  have HS13 := Lib.hid (HS12.out.keep HA13.out (fun _ _ h => h))
  clear hw13
  go_wp2_with (at_builtin; refine halt ?_)
  refine Halted.go (wpList_app8b w13 rfl _ _ 22 rfl w9.heap.size a10 n10 c10 S rfl HS13.out _ rfl xs (Eq.subst (motive := fun k => Src Try.prog 1 22 (.slice da dn dc) k (Bs xs) w13) HN.out ((HBB.out w13 HK13.out).2.src Try.underlying22 (Bs_one xs))) (by have := HN.out; omega) (by have h1 := HS10.out.1; have h2 := HZ11.out; have h3 := HZ12.out; have h4 := HA13.out.size; omega) ?_)
  intro a14 c14 w14 hd14 hk14 hn14 hs14
  have HK14 : Hid (Below w.heap.size w w14) := Lib.hid (Keeps.mine_below HK13.out hk14 HK13.out.size HS10.out.2)
  have HD14 := Lib.hid hd14
  have HX14 : Hid (Blk w14 w12.heap.size x.cs 32) := Lib.hid (hk14.blk HX13.out (fun h => by have h1 := HL10.out _ h.2; have h2 := HZ11.out; have h3 := HZ12.out; omega))
  have HQ14 : Hid (By w14 x.a x.n x.cap x.c.xs) := Lib.hid ((HQX.out.q.b.keep HA13.out (fun _ _ h => h)).keep hk14 (fun b hb h => by have h1 := HL10.out _ h.2; have h2 := HZ11.out; have h3 := (HQX.out.hb b hb).1; omega))
  have HL14 : Hid (∀ b, x.a.map (·.block) = some b → b < w14.heap.size) := Lib.hid (fun b hb => by have h1 := (HQX.out.hb b hb).2; have h2 := HA13.out.size; have h3 := hk14.size; omega)
  clear hd14 hk14 hn14 hs14
  obtain ⟨m14, hm14⟩ : ∃ m, n10 + xs.length = m := ⟨_, rfl⟩
  have hm142 : m14 = m11 := by have := HM11.out; omega
  subst hm142
  rw [hm14] at HD14 ⊢
  clear hm14
  go_wp2_with fail
  refine (rreadframe_any a14 m14 c14 (S ++ xs) w14 HD14.out.by (by omega) (HD14.out.by.2.lt (by omega))).mono ?_
  rintro e w15 ⟨hk15, hr15⟩
  rw [HDE9.out] at hr15
  obtain ⟨y, hyc, rfl, hqy⟩ := hr15
  have HYC := Lib.hid hyc
  have HK15 : Hid (Below w.heap.size w w15) := Lib.hid (HK14.out.trans (hk15.mono HK14.out.size))
  have HX15 : Hid (Blk w15 w12.heap.size x.cs 32) := Lib.hid ((Below.keeps hk15).blk HX14.out (by have := HX14.out.lt; omega))
  have HQ15 := Lib.hid (HQ14.out.keep (Below.keeps hk15) (fun b hb h => by have h1 := HL14.out b hb; omega))
  clear hk15 hyc hqy
  dsimp only [List.length_nil, Nat.sub_zero]
  unfold Qf.cs
  go_upto_region 14 with fail
  refine wp_named ?_
  intro w16 hw16
  have HA16 : Hid (Keeps (fun _ => False) w15 w16) := Lib.hid (by rw [← hw16]; exact (Keeps.refl _ _).alloc _)
  have HY16 : Hid (Blk w16 w15.heap.size y.cs 32) := Lib.hid (by rw [← hw16]; exact Blk.new _ _ _)
  have HX16 := Lib.hid (HA16.out.blk HX15.out (fun h => h))
  have HQ16 := Lib.hid (HQ15.out.keep HA16.out (fun _ _ h => h))
  have HK16 : Hid (Below w.heap.size w w16) := Lib.hid (Keeps.below HK15.out HA16.out HK15.out.size (fun _ h => False.elim h))
  clear hw16
  have z1 : w16.cell? ⟨w12.heap.size, 1, none⟩ = some (.int .u64 I) := by have h := HX16.out.cell 1; rw [show x.cs[1]? = some (.int .u64 x.c.id) from rfl, HXC.out] at h; exact h
  have z3 : w16.cell? ⟨w12.heap.size, 3, none⟩ = some (.bool true) := by have h := HX16.out.cell 3; rw [show x.cs[3]? = some (.bool x.c.fin) from rfl, HXC.out] at h; exact h
  have z8 : w16.cell? ⟨w12.heap.size, 8, none⟩ = some (.slice x.a x.n x.cap) := HX16.out.cell 8
  have y1 : w16.cell? ⟨w15.heap.size, 1, none⟩ = some (.int .u64 I) := by have h := HY16.out.cell 1; rw [show y.cs[1]? = some (.int .u64 y.c.id) from rfl, HYC.out] at h; exact h
  have HXB : Hid (By w16 x.a x.n x.cap xs) := Lib.hid (by have h := HQ16.out; rw [HXC.out] at h; exact h)
  go_wp2_with fail
  refine By.upon HXB.out ?_
  go_wp2_with fail
  refine By.upon (HBB.out w16 HK16.out) ?_
  go_wp2_with fail
  go_returns
  exact ⟨rfl, HK16.out⟩

end Go.Proofs.Ytgfkgmmigbpciaa
