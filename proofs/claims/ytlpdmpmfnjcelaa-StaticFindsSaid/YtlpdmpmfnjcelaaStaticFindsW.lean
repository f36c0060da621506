/- The walk of StaticFinds. -/
import Derived.Test.YtlpdmpmfnjcelaaSta7
import Derived.Test.YtlpdmpmfnjcelaaSta4
import Derived.Deep.DeepCutAuto
import Derived.Lib.SmallJoins
import Derived.Deep.RegionHeld3
import Derived.Deep.DeepMust
namespace Go.Proofs.Ytlpdmpmfnjcelaa
open Go.RowKit Go.Deep

theorem str_list (s : ByteArray) : ∃ l : List UInt8, s = ⟨l.toArray⟩ ∧ s.size = l.length := ⟨s.data.toList, by cases s with | mk a => show _ = _; rw [Array.toArray_toList], (Array.length_toList (xs := s.data)).symm⟩
/-- An argument that is a field. -/
theorem Arg.field {w : World} {v : Value} (h : Arg Try.prog w 26 v) : ∃ f1 f2 : List UInt8, v = .agg #[.string ⟨f1.toArray⟩, .string ⟨f2.toArray⟩] ∧ f1.length ≤ maxLen ∧ f2.length ≤ maxLen := by
  obtain ⟨⟨base, hv⟩, H, enc, d, p, hd⟩ := h
  obtain ⟨v0, v1, y0, y1, n, rfl, _, _, h0, h1⟩ := Joins.open_agg2 Try.underlying26 (by kernel_rfl) (by kernel_rfl) hv hd
  have r0 : Rd Try.prog w 9 v0 := ⟨H, enc, n, _, h0⟩
  have r1 : Rd Try.prog w 9 v1 := ⟨H, enc, n, _, h1⟩
  obtain ⟨s0, rfl, z0⟩ := r0.str Try.underlying9
  obtain ⟨s1, rfl, z1⟩ := r1.str Try.underlying9
  obtain ⟨f1, rfl, e1⟩ := str_list s0
  obtain ⟨f2, rfl, e2⟩ := str_list s1
  exact ⟨f1, f2, rfl, by omega, by omega⟩
theorem findS_cases (l : List Fd) (f : Fd) : (findS l f).2.1 = true ∨ findS l f = (0, false, false) := by
  unfold findS
  cases fullI l f with
  | some i => exact .inl rfl
  | none =>
    unfold nameS
    cases nameI l f with
    | some i => exact .inl rfl
    | none => exact .inr rfl

theorem findS_shape (l : List Fd) (f : Fd) : (∃ (i : Nat) (b : Bool), findS l f = ((i : Int), true, b) ∧ i ≤ l.length) ∨ findS l f = (0, false, false) := by
  rcases findS_cases l f with h | h
  · have hb := findS_bd l f
    generalize findS l f = r at *
    obtain ⟨r1, r2, r3⟩ := r
    simp only at h hb
    subst h
    exact .inl ⟨r1.toNat, r3, by rw [Int.toNat_of_nonneg hb.1], by omega⟩
  · exact .inr h
theorem findh2_is (f : Fd) (w : World) {r1 : Int} {r2 r3 : Bool} (h : findH2 f = (r1, r2, r3)) :
    Calls Try.prog 12 #[FdV f] w fun e w' => e = .returned (.tuple #[.int .u64 r1, .bool r2, .bool r3]) ∧ Below w.heap.size w w' := by
  have := findh2_any f w
  rw [h] at this
  exact this
theorem findh3_is (f : Fd) (w : World) {r1 : Int} {r2 r3 : Bool} (h : findS tab3 f = (r1, r2, r3)) :
    Calls Try.prog 14 #[FdV f] w fun e w' => e = .returned (.tuple #[.int .u64 r1, .bool r2, .bool r3]) ∧ Below w.heap.size w w' := by
  have := findh3_any f w
  rw [h] at this
  exact this
theorem findr_is (a : Option Addr) (n cap : Nat) (l : List Fd) (f : Fd) (w : World) (hb : Fv w a n cap l) (hn : n ≤ 1000) {r1 : Int} {r2 r3 : Bool} (h : findS l f = (r1, r2, r3)) :
    Calls Try.prog 13 #[.slice a n cap, FdV f] w fun e w' => e = .returned (.tuple #[.int .i64 r1, .bool r2, .bool r3]) ∧ Below w.heap.size w w' := by
  have := findr_any a n cap l f w hb hn
  rw [h] at this
  exact this
theorem findH2_yes {f : Fd} {i : Nat} {b : Bool} (h : findS tab2 f = ((i : Int), true, b)) : findH2 f = ((i : Int) + 1, true, b) := by
  unfold findH2
  rw [h]
  rfl
theorem findH2_no {f : Fd} (h : findS tab2 f = (0, false, false)) : findH2 f = (0, false, false) := by
  unfold findH2
  rw [h]
  rfl
theorem below_some {g o B : Nat} (h : g < B) : ∀ b, (some (⟨g, o, none⟩ : Addr)).map (·.block) = some b → b < B := by
  intro b hb
  simp at hb
  omega
theorem blk_second (w : World) (o : Obj) (cs : Array Value) (ty : Nat) : Blk ((w.alloc o).alloc (.cells cs ty)).drew (w.heap.size + 1) cs ty := by
  have := (Blk.new (w.alloc o) cs ty).drew
  simpa only [World.size_alloc] using this
theorem blk_first (w : World) (cs ds : Array Value) (ty tz : Nat) : Blk ((w.alloc (.cells cs ty)).alloc (.cells ds tz)).drew w.heap.size cs ty := ((Blk.new w cs ty).alloc _).drew
theorem below_two (w : World) (o p : Obj) : Below w.heap.size w ((w.alloc o).alloc p).drew := (((Below.refl _ _).alloc (Nat.le_refl _) o).alloc (by simp) p).drew

set_option maxRecDepth 10000000 in
set_option maxHeartbeats 6400000 in
theorem walkStaticFinds (w : World) (v0 : Value) (h0 : Arg Try.prog w 26 v0) (i : Int) (hi : (Lit.int .u8 i).wf = true) (s : ByteArray) (hs : s.size ≤ maxLen) :
    Calls Try.prog 4 #[v0, .int .u8 i, .string s] w fun e w' => e = .returned (.bool true) ∧ Below w.heap.size w w' := by
  obtain ⟨f1, f2, rfl, l1, l2⟩ := h0.field
  obtain ⟨v, rfl, l3⟩ := str_list s
  obtain ⟨i0, i1⟩ := wf_u8_iff hi
  obtain ⟨I, rfl⟩ : ∃ I : Nat, i = I := ⟨i.toNat, by omega⟩
  unfold maxLen at hs l1 l2
  rw [l3] at hs
  clear hi h0 l3
  go_enter Try.func4, Try.ntmps4
  go_wp2_with fail
  refine (known_any _).mono ?_
  rintro e w1 ⟨rfl, hk1⟩
  have HF1 := Lib.hid ((Below.keeps hk1).blk (Blk.new w #[.string ⟨f1.toArray⟩, .string ⟨f2.toArray⟩] 26) (by simp))
  have HK1 := Lib.hid (((Below.refl w.heap.size w).alloc (Nat.le_refl _) (.cells #[.string ⟨f1.toArray⟩, .string ⟨f2.toArray⟩] 26 (0, 0))).trans (hk1.mono (by simp)))
  have hs1 : w.heap.size + 1 ≤ w1.heap.size := by have := hk1.size; simp at this; exact this
  obtain ⟨a1, a2⟩ := HF1.out.two
  clear hk1
  go_upto_if 31 with fail
  generalize wrap64 (wrap64 ((f1.length : Int) + (f2.length : Int)) + (v.length : Int)) = z
  generalize wrap64 ((f1.length : Int) + (f2.length : Int)) = z0
  generalize (f1.length : Int) = z1
  generalize (f2.length : Int) = z2
  generalize (v.length : Int) = z3
  generalize decide (200 < z) = dz
  clear l1 l2 hs
  cases dz with
  | true =>
    go_wp2_with fail
    go_returns
    exact ⟨rfl, HK1.out⟩
  | false =>
    go_wp2_with fail
    refine (h2s_any w1).mono ?_
    rintro e w2 ⟨b2, n2, c2, rfl, ho2, hk2⟩
    have hn2 : n2 = 61 := ho2.1.trans tab2_len
    subst hn2
    have HO2 := Lib.hid ho2
    have HK2 := Lib.hid (HK1.out.trans (hk2.mono HK1.out.size))
    have HF2 := Lib.hid ((Below.keeps hk2).blk HF1.out (by omega))
    have hs2 : w.heap.size + 1 ≤ w2.heap.size := Nat.le_trans hs1 hk2.size
    clear ho2 hk2 a1 a2
    go_wp2_with fail
    refine (h3s_any w2).mono ?_
    rintro e w3 ⟨b3, n3, c3, rfl, ho3, hk3⟩
    have hn3 : n3 = 99 := ho3.1.trans tab3_len
    subst hn3
    have HO3 := Lib.hid ho3.fv
    have HO2b := Lib.hid (HO2.out.below hk3).fv
    have HK3 := Lib.hid (HK2.out.trans (hk3.mono HK2.out.size))
    have HF3 := Lib.hid ((Below.keeps hk3).blk HF2.out (by omega))
    have hs3 : w.heap.size + 1 ≤ w3.heap.size := Nat.le_trans hs2 hk3.size
    clear ho3 hk3
    obtain ⟨k, hk⟩ : ∃ k : Nat, (I : Int) % 61 = k := ⟨I % 61, by omega⟩
    obtain ⟨m, hm⟩ : ∃ m : Nat, (I : Int) % 99 = m := ⟨I % 99, by omega⟩
    have hk61 : k < 61 := by omega
    have hm99 : m < 99 := by omega
    have hkt : (I : Int).tmod 61 = (k : Int) := by rw [Int.tmod_eq_emod_of_nonneg (by omega), hk]
    have hmt : (I : Int).tmod 99 = (m : Int) := by rw [Int.tmod_eq_emod_of_nonneg (by omega), hm]
    have hwI : IntKind.i64.wrap (I : Int) = (I : Int) := by rw [IntKind.wrap_i64]; omega
    clear hk hm
    obtain ⟨g2, o2, hb2, hg2, hc2⟩ := HO2b.out.get (by omega)
    obtain ⟨g3, o3, hb3, hg3, hc3⟩ := HO3.out.get (by omega)
    have hk2 := hc2 k (by rw [tab2_len]; exact hk61)
    have hm3 := hc3 m (by rw [tab3_len]; exact hm99)
    generalize tab2[k]'(by rw [tab2_len]; exact hk61) = x at *
    generalize tab3[m]'(by rw [tab3_len]; exact hm99) = y at *
    obtain ⟨x1, x2⟩ := x
    obtain ⟨y1, y2⟩ := y
    have c1 : w3.cell? ⟨g2, o2 + k * 2, none⟩ = some (.string ⟨x1.toArray⟩) := hk2.1
    have c2' : w3.cell? ⟨g2, o2 + k * 2 + 1, none⟩ = some (.string ⟨x2.toArray⟩) := hk2.2
    have c3' : w3.cell? ⟨g3, o3 + m * 2, none⟩ = some (.string ⟨y1.toArray⟩) := hm3.1
    have c4' : w3.cell? ⟨g3, o3 + m * 2 + 1, none⟩ = some (.string ⟨y2.toArray⟩) := hm3.2
    clear hk2 hm3 hc2 hc3
    have hk0 : (0 : Int) ≤ (k : Int) := by omega
    have hm0 : (0 : Int) ≤ (m : Int) := by omega
    have hk1 : (k : Int) < 61 := by omega
    have hm1 : (m : Int) < 99 := by omega
    have nn1 : w3.heap.size ≠ g2 := by omega
    have nn2 : w3.heap.size ≠ g3 := by omega
    have nn3 : w3.heap.size + 1 ≠ g2 := by omega
    have nn4 : w3.heap.size + 1 ≠ g3 := by omega
    have mm1 : g2 ≠ w3.heap.size := by omega
    have mm2 : g3 ≠ w3.heap.size := by omega
    have mm3 : g2 ≠ w3.heap.size + 1 := by omega
    have mm4 : g3 ≠ w3.heap.size + 1 := by omega
    subst hb2 hb3
    go_upto_region 6 with fail
    go_cut [9, 10] (fun s9 s10 wx => ∃ p9 p10 : Nat, s9 = .pointer (some ⟨p9, 0, none⟩) ∧ s10 = .pointer (some ⟨p10, 0, none⟩) ∧ Blk wx p9 #[.string ⟨x1.toArray⟩, .string ⟨x2.toArray⟩] 26 ∧ Blk wx p10 #[.string ⟨y1.toArray⟩, .string ⟨y2.toArray⟩] 26 ∧ Below w3.heap.size w3 wx)
    case first J K' hJ hK =>
      go_region_held3 (fun w' => w'.cell? ⟨g2, o2 + k * 2, none⟩ = some (.string ⟨x1.toArray⟩) ∧ w'.cell? ⟨g2, o2 + k * 2 + 1, none⟩ = some (.string ⟨x2.toArray⟩) ∧ w'.cell? ⟨g3, o3 + m * 2, none⟩ = some (.string ⟨y1.toArray⟩) ∧ w'.cell? ⟨g3, o3 + m * 2 + 1, none⟩ = some (.string ⟨y2.toArray⟩)) (go_keep) (fail)
      · simp only [Exit.then]
        refine hK _ _ (Met.intro (hJ _ _ ?_))
        (repeat apply Exists.intro)
        refine And.intro ?_ rfl
        exact ⟨w3.heap.size, w3.heap.size + 1, rfl, rfl, blk_first w3 _ _ _ _, blk_second w3 _ _ _, below_two w3 _ _⟩
      · simp only [Exit.then]
        refine hK _ _ (Met.intro (hJ _ _ ?_))
        (repeat apply Exists.intro)
        refine And.intro ?_ rfl
        exact ⟨w3.heap.size + 1, w3.heap.size, rfl, rfl, blk_second w3 _ _ _, blk_first w3 _ _ _ _, below_two w3 _ _⟩
    case rest =>
      obtain ⟨p9, p10, rfl, rfl, hp9, hp10, hkx⟩ := hcut
      have HFx := Lib.hid ((Below.keeps hkx).blk HF3.out (by omega))
      have HKX := Lib.hid (HK3.out.trans (hkx.mono HK3.out.size))
      have HKX2 : Hid (w3.heap.size ≤ wc.heap.size) := hkx.size
      have HO2x := Lib.hid (HO2b.out.below hkx (below_some hg2))
      have HO3x := Lib.hid (HO3.out.below hkx (below_some hg3))
      obtain ⟨a1, a2⟩ := HFx.out.two
      obtain ⟨b1, b2⟩ := hp9.two
      obtain ⟨d1, d2⟩ := hp10.two
      clear hkx hp9 hp10 c1 c2' c3' c4' hkt hmt hwI hk0 hm0 hk1 hm1 nn1 nn2 nn3 nn4 mm1 mm2 mm3 mm4 HO2b HO3
      go_wp2_with fail
      clear a1 a2 b1 b2 d1 d2
      have HB := Lib.hid (Blk.new wc (Fs [(f1, f2), (x1, x2), (y1, y2), (x1, v), (y1, v), (f1, x2)]).toArray 26)
      have HK4 := Lib.hid ((Below.refl wc.heap.size wc).alloc (Nat.le_refl _) (.cells (Fs [(f1, f2), (x1, x2), (y1, y2), (x1, v), (y1, v), (f1, x2)]).toArray 26 (0, 0)))
      have HS4 : Hid ((wc.alloc (.cells (Fs [(f1, f2), (x1, x2), (y1, y2), (x1, v), (y1, v), (f1, x2)]).toArray 26 (0, 0))).heap.size = wc.heap.size + 1) := by show _ = _; simp
      show Code.wp _ _ _ _ (wc.alloc (.cells (Fs [(f1, f2), (x1, x2), (y1, y2), (x1, v), (y1, v), (f1, x2)]).toArray 26 (0, 0)))
      generalize wc.alloc (.cells (Fs [(f1, f2), (x1, x2), (y1, y2), (x1, v), (y1, v), (f1, x2)]).toArray 26 (0, 0)) = w4 at *
      generalize hgl : [(f1, f2), (x1, x2), (y1, y2), (x1, v), (y1, v), (f1, x2)] = GL at *
      have HGL : Hid (GL.length = 6) := by show _ = _; rw [← hgl]; rfl
      clear hgl
      go_loopg [68] 6 (fun k vi wr => ∃ (j : Nat), k + j = 6 ∧ vi = .int .i64 j ∧ Below w4.heap.size w4 wr)
      case atStart => exact ⟨0, by omega, rfl, Below.refl _ _⟩
      case round =>
        obtain ⟨j, hj, rfl, hk⟩ := hrel
        have HJ := Lib.hid hj
        have HK := Lib.hid hk
        clear hj hk
        by_cases hj6 : j < 6
        · have hb := (Below.keeps HK.out).blk HB.out (by rw [HS4.out]; omega)
          have hjl : j < GL.length := by rw [HGL.out]; exact hj6
          obtain ⟨e1, e2⟩ := Fs_get GL j hjl
          generalize GL[j]'hjl = g at *
          obtain ⟨u1, u2⟩ := g
          have p1 : wr.cell? ⟨wc.heap.size, j * 2, none⟩ = some (.string ⟨u1.toArray⟩) := by rw [hb.cell]; simpa [St] using e1
          have p2 : wr.cell? ⟨wc.heap.size, j * 2 + 1, none⟩ = some (.string ⟨u2.toArray⟩) := by rw [hb.cell]; simpa [St] using e2
          clear e1 e2 hb
          have hj0 : (0 : Int) ≤ (j : Int) := by omega
          have HKR := Lib.hid (HK4.out.trans (HK.out.mono HK4.out.size))
          have hszr : wc.heap.size ≤ wr.heap.size := HKR.out.size
          have HI2 := Lib.hid (below_some (o := o2) (show g2 < wc.heap.size by have := HKX2.out; omega))
          have HI3 := Lib.hid (below_some (o := o3) (show g3 < wc.heap.size by have := HKX2.out; omega))
          have HSR : Hid (∀ o, (wr.alloc o).heap.size = wr.heap.size + 1) := by show ∀ _, _; simp
          obtain ⟨g, rfl⟩ : ∃ g, gk = g + 1 := ⟨gk - 1, by have := HJ.out; omega⟩
          rcases findS_shape tab2 (u1, u2) with ⟨i2, t2, h2, l2⟩ | h2 <;> rcases findS_shape tab3 (u1, u2) with ⟨i3, t3, h3, l3⟩ | h3
          · have hq2 := findH2_yes h2
            rw [tab2_len] at l2
            rw [tab3_len] at l3
            have HH2 := Lib.hid hq2
            have HS2 := Lib.hid h2
            have HS3 := Lib.hid h3
            clear hq2 h2 h3
            go_wp2_with (first
              | (go_at_call 12; go_must (refine (findh2_is (u1, u2) _ HH2.out).mono ?_; rintro e w5 ⟨rfl, hk5⟩; have HC5 := Lib.hid ((Below.keeps hk5).blk (Blk.new wr #[.string ⟨u1.toArray⟩, .string ⟨u2.toArray⟩] 26) (by rw [HSR.out]; omega)); have HR5 := Lib.hid ((HK.out.alloc HK.out.size _).trans (hk5.mono (by rw [HSR.out]; have := HK.out.size; omega))); obtain ⟨q1, q2⟩ := HC5.out.two; have hs5 : wr.heap.size + 1 ≤ w5.heap.size := (by have := hk5.size; rw [HSR.out] at this; exact this); dsimp only))
              | (go_at_call_of 13 c2; go_must (refine (findr_is _ 61 c2 tab2 (u1, u2) w5 (HO2x.out.below (HK4.out.trans (HR5.out.mono HK4.out.size)) HI2.out) (by omega) HS2.out).mono ?_; rintro e w6 ⟨rfl, hk6⟩; have HC6 := Lib.hid ((Below.keeps hk6).blk HC5.out (by omega)); have HR6 := Lib.hid (HR5.out.trans (hk6.mono HR5.out.size)); obtain ⟨r1, r2⟩ := HC6.out.two; have hs6 : wr.heap.size + 1 ≤ w6.heap.size := Nat.le_trans hs5 hk6.size; dsimp only))
              | (go_at_call 14; go_must (refine (findh3_is (u1, u2) _ HS3.out).mono ?_; rintro e w7 ⟨rfl, hk7⟩; have HC7 := Lib.hid ((Below.keeps hk7).blk HC6.out (by omega)); have HR7 := Lib.hid (HR6.out.trans (hk7.mono HR6.out.size)); obtain ⟨y1, y2⟩ := HC7.out.two; dsimp only))
              | (go_at_call_of 13 c3; go_must (refine (findr_is _ 99 c3 tab3 (u1, u2) w7 (HO3x.out.below (HK4.out.trans (HR7.out.mono HK4.out.size)) HI3.out) (by omega) HS3.out).mono ?_; rintro e w8 ⟨rfl, hk8⟩; have HR8 := Lib.hid (HR7.out.trans (hk8.mono HR7.out.size)); dsimp only))
              | (go_roundg g; (case measure => omega); (case rel => exact ⟨j + 1, by have := HJ.out; omega, by go_num, HR8.out⟩)))
          · have hq2 := findH2_yes h2
            rw [tab2_len] at l2
            have HH2 := Lib.hid hq2
            have HS2 := Lib.hid h2
            have HS3 := Lib.hid h3
            clear hq2 h2 h3
            go_wp2_with (first
              | (go_at_call 12; go_must (refine (findh2_is (u1, u2) _ HH2.out).mono ?_; rintro e w5 ⟨rfl, hk5⟩; have HC5 := Lib.hid ((Below.keeps hk5).blk (Blk.new wr #[.string ⟨u1.toArray⟩, .string ⟨u2.toArray⟩] 26) (by rw [HSR.out]; omega)); have HR5 := Lib.hid ((HK.out.alloc HK.out.size _).trans (hk5.mono (by rw [HSR.out]; have := HK.out.size; omega))); obtain ⟨q1, q2⟩ := HC5.out.two; have hs5 : wr.heap.size + 1 ≤ w5.heap.size := (by have := hk5.size; rw [HSR.out] at this; exact this); dsimp only))
              | (go_at_call_of 13 c2; go_must (refine (findr_is _ 61 c2 tab2 (u1, u2) w5 (HO2x.out.below (HK4.out.trans (HR5.out.mono HK4.out.size)) HI2.out) (by omega) HS2.out).mono ?_; rintro e w6 ⟨rfl, hk6⟩; have HC6 := Lib.hid ((Below.keeps hk6).blk HC5.out (by omega)); have HR6 := Lib.hid (HR5.out.trans (hk6.mono HR5.out.size)); obtain ⟨r1, r2⟩ := HC6.out.two; have hs6 : wr.heap.size + 1 ≤ w6.heap.size := Nat.le_trans hs5 hk6.size; dsimp only))
              | (go_at_call 14; go_must (refine (findh3_is (u1, u2) _ HS3.out).mono ?_; rintro e w7 ⟨rfl, hk7⟩; have HC7 := Lib.hid ((Below.keeps hk7).blk HC6.out (by omega)); have HR7 := Lib.hid (HR6.out.trans (hk7.mono HR6.out.size)); obtain ⟨y1, y2⟩ := HC7.out.two; dsimp only))
              | (go_at_call_of 13 c3; go_must (refine (findr_is _ 99 c3 tab3 (u1, u2) w7 (HO3x.out.below (HK4.out.trans (HR7.out.mono HK4.out.size)) HI3.out) (by omega) HS3.out).mono ?_; rintro e w8 ⟨rfl, hk8⟩; have HR8 := Lib.hid (HR7.out.trans (hk8.mono HR7.out.size)); dsimp only))
              | (go_roundg g; (case measure => omega); (case rel => exact ⟨j + 1, by have := HJ.out; omega, by go_num, HR8.out⟩)))
          · have hq2 := findH2_no h2
            rw [tab3_len] at l3
            have HH2 := Lib.hid hq2
            have HS2 := Lib.hid h2
            have HS3 := Lib.hid h3
            clear hq2 h2 h3
            go_wp2_with (first
              | (go_at_call 12; go_must (refine (findh2_is (u1, u2) _ HH2.out).mono ?_; rintro e w5 ⟨rfl, hk5⟩; have HC5 := Lib.hid ((Below.keeps hk5).blk (Blk.new wr #[.string ⟨u1.toArray⟩, .string ⟨u2.toArray⟩] 26) (by rw [HSR.out]; omega)); have HR5 := Lib.hid ((HK.out.alloc HK.out.size _).trans (hk5.mono (by rw [HSR.out]; have := HK.out.size; omega))); obtain ⟨q1, q2⟩ := HC5.out.two; have hs5 : wr.heap.size + 1 ≤ w5.heap.size := (by have := hk5.size; rw [HSR.out] at this; exact this); dsimp only))
              | (go_at_call_of 13 c2; go_must (refine (findr_is _ 61 c2 tab2 (u1, u2) w5 (HO2x.out.below (HK4.out.trans (HR5.out.mono HK4.out.size)) HI2.out) (by omega) HS2.out).mono ?_; rintro e w6 ⟨rfl, hk6⟩; have HC6 := Lib.hid ((Below.keeps hk6).blk HC5.out (by omega)); have HR6 := Lib.hid (HR5.out.trans (hk6.mono HR5.out.size)); obtain ⟨r1, r2⟩ := HC6.out.two; have hs6 : wr.heap.size + 1 ≤ w6.heap.size := Nat.le_trans hs5 hk6.size; dsimp only))
              | (go_at_call 14; go_must (refine (findh3_is (u1, u2) _ HS3.out).mono ?_; rintro e w7 ⟨rfl, hk7⟩; have HC7 := Lib.hid ((Below.keeps hk7).blk HC6.out (by omega)); have HR7 := Lib.hid (HR6.out.trans (hk7.mono HR6.out.size)); obtain ⟨y1, y2⟩ := HC7.out.two; dsimp only))
              | (go_at_call_of 13 c3; go_must (refine (findr_is _ 99 c3 tab3 (u1, u2) w7 (HO3x.out.below (HK4.out.trans (HR7.out.mono HK4.out.size)) HI3.out) (by omega) HS3.out).mono ?_; rintro e w8 ⟨rfl, hk8⟩; have HR8 := Lib.hid (HR7.out.trans (hk8.mono HR7.out.size)); dsimp only))
              | (go_roundg g; (case measure => omega); (case rel => exact ⟨j + 1, by have := HJ.out; omega, by go_num, HR8.out⟩)))
          · have hq2 := findH2_no h2
            have HH2 := Lib.hid hq2
            have HS2 := Lib.hid h2
            have HS3 := Lib.hid h3
            clear hq2 h2 h3
            go_wp2_with (first
              | (go_at_call 12; go_must (refine (findh2_is (u1, u2) _ HH2.out).mono ?_; rintro e w5 ⟨rfl, hk5⟩; have HC5 := Lib.hid ((Below.keeps hk5).blk (Blk.new wr #[.string ⟨u1.toArray⟩, .string ⟨u2.toArray⟩] 26) (by rw [HSR.out]; omega)); have HR5 := Lib.hid ((HK.out.alloc HK.out.size _).trans (hk5.mono (by rw [HSR.out]; have := HK.out.size; omega))); obtain ⟨q1, q2⟩ := HC5.out.two; have hs5 : wr.heap.size + 1 ≤ w5.heap.size := (by have := hk5.size; rw [HSR.out] at this; exact this); dsimp only))
              | (go_at_call_of 13 c2; go_must (refine (findr_is _ 61 c2 tab2 (u1, u2) w5 (HO2x.out.below (HK4.out.trans (HR5.out.mono HK4.out.size)) HI2.out) (by omega) HS2.out).mono ?_; rintro e w6 ⟨rfl, hk6⟩; have HC6 := Lib.hid ((Below.keeps hk6).blk HC5.out (by omega)); have HR6 := Lib.hid (HR5.out.trans (hk6.mono HR5.out.size)); obtain ⟨r1, r2⟩ := HC6.out.two; have hs6 : wr.heap.size + 1 ≤ w6.heap.size := Nat.le_trans hs5 hk6.size; dsimp only))
              | (go_at_call 14; go_must (refine (findh3_is (u1, u2) _ HS3.out).mono ?_; rintro e w7 ⟨rfl, hk7⟩; have HC7 := Lib.hid ((Below.keeps hk7).blk HC6.out (by omega)); have HR7 := Lib.hid (HR6.out.trans (hk7.mono HR6.out.size)); obtain ⟨y1, y2⟩ := HC7.out.two; dsimp only))
              | (go_at_call_of 13 c3; go_must (refine (findr_is _ 99 c3 tab3 (u1, u2) w7 (HO3x.out.below (HK4.out.trans (HR7.out.mono HK4.out.size)) HI3.out) (by omega) HS3.out).mono ?_; rintro e w8 ⟨rfl, hk8⟩; have HR8 := Lib.hid (HR7.out.trans (hk8.mono HR7.out.size)); dsimp only))
              | (go_roundg g; (case measure => omega); (case rel => exact ⟨j + 1, by have := HJ.out; omega, by go_num, HR8.out⟩)))
        · obtain rfl : j = 6 := by have := HJ.out; omega
          go_wp2_with (go_returns; exact ⟨rfl, HKX.out.trans ((HK4.out.trans (HK.out.mono HK4.out.size)).mono HKX.out.size)⟩)

end Go.Proofs.Ytlpdmpmfnjcelaa
