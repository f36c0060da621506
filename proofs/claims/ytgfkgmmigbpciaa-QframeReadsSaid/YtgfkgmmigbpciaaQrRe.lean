/- The walk of QframeReads. -/
import Derived.Test.YtgfkgmmigbpciaaQrRa
import Derived.Deep.DeepCutAuto
namespace Go.Proofs.Ytgfkgmmigbpciaa
set_option linter.unusedSimpArgs false
set_option linter.unusedVariables false
open Go.RowKit Go.Deep

theorem By.rowR {w : World} {a : Option Addr} {n cap : Nat} {xs : List UInt8} (h : By w a n cap xs) (hn : 0 < n) : ∃ b off, a = some ⟨b, off, none⟩ ∧ b < w.heap.size ∧ ∀ i (hi : i < xs.length), w.cell? ⟨b, off + i, none⟩ = some (Go.Proofs.Ytgfkgmmigbpciaa.B xs[i]) := by
 have h1 := h.1
 rcases h.2.at_ with h0 | ⟨b, off, ha, hb, hc⟩
 ·have h2 : xs = [] := by simpa [Bs] using h0
  subst h2
  simp at h1
  omega
 ·exact ⟨b, off, ha, hb, fun i hi => hc i _ (by simp [Bs, hi])⟩
theorem By.cutR {w : World} {a : Option Addr} {n cap k : Nat} {xs : List UInt8} (h : By w a n cap xs) (hk : k ≤ n) : By w a k cap (xs.take k) := by
 have h1 := h.1
 have e : Bs (xs.take k) = (Bs xs).take k := by simp [Bs, List.map_take]
 refine ⟨by rw [List.length_take]; omega, ⟨by have := h.2.le; omega, h.2.max, by simp [Bs, List.length_take]; omega, ?_⟩⟩
 rcases h.2.at_ with h0 | ⟨b, off, ha, hb, hc⟩
 ·exact .inl (by rw [e, h0, List.take_nil])
 ·refine .inr ⟨b, off, ha, hb, fun j v hj => hc j v ?_⟩
  rw [e, List.getElem?_take] at hj
  split at hj
  ·exact hj
  ·cases hj

set_option maxRecDepth 100000 in
set_option maxHeartbeats 12800000 in
theorem walkQframeReads (w : World) (v0 : Value) (h0 : Arg Try.prog w 22 v0) (v1 : Value) (h1 : Arg Try.prog w 23 v1) (at_ : Int) (w2 : (Lit.int .u16 at_).wf = true) (x : Int) (w3 : (Lit.int .u8 x).wf = true) (cut : Bool) :
  Calls Try.prog 6 #[v0, v1, .int .u16 at_, .int .u8 x, .bool cut] w fun e w' => e = .returned (.bool true) ∧ Below w.heap.size w w' := by
 obtain ⟨p0, p1⟩ := wf_u16_iff w2
 obtain ⟨x0, x1⟩ := wf_u8_iff w3
 obtain ⟨ar, nr, cr, xs, rfl, hb, hbb⟩ := h0.bytes
 have HLT := Lib.hid (Arg.ltQ h0 Try.underlying22)
 obtain ⟨la, ln, lc, l, rfl, hv⟩ := h1.qframes
 have HBB := Lib.hid hbb
 have HV := Lib.hid hv
 clear hb hbb hv h0 h1 w2 w3
 go_enter Try.func6, Try.ntmps6
 go_wp2_with fail
 refine (known_any w).mono ?_
 rintro e w1 ⟨rfl, hk1⟩
 have HK1 := Lib.hid hk1
 clear hk1
 by_cases hn : nr ≤ 300
 rotate_left
 ·have hd : decide ((300 : Int) < (nr : Int)) = true := by simp; omega
  have hd2 : decide (300 < nr) = true := by simp; omega
  clear hn
  go_wp2_with fail
  go_returns
  exact ⟨rfl, HK1.out⟩
 have hd : decide ((300 : Int) < (nr : Int)) = false := by simp; omega
 have hd2 : decide (300 < nr) = false := by simp; omega
 go_wp2_with fail
 refine (light_any la ln lc l w1 (HV.out w1 HK1.out)).mono ?_
 rintro e w' ⟨rfl, rfl⟩
 cases hlt : lightB l with
 | false =>
  clear hlt
  go_wp2_with fail
  go_returns
  exact ⟨rfl, HK1.out⟩
 | true =>
  obtain ⟨hl10, hll⟩ := lightB_bd hlt
  have HSM : Hid (∀ f ∈ l, f.c.Small) := Lib.hid (fun f hf => light_small (hll f hf))
  have HLL : Hid (∀ f ∈ l, f.c.light = true) := Lib.hid hll
  have HLN : Hid (ln = l.length) := Lib.hid (HV.out w1 HK1.out).1
  have hlc : ln ≤ lc := (HV.out w1 HK1.out).2.1
  have hln10 : ln ≤ 10 := by have := HLN.out; omega
  clear hlt hll hd hd2
  go_wp2_with fail
  go_loopg [11, 12] ln (fun k v11 v12 wr => ∃ (i : Nat) (a : Option Addr) (n cap : Nat) (ys : List UInt8), v11 = .slice a n cap ∧ v12 = .int .i64 (i : Int) ∧ k + i = ln ∧ Wb w.heap.size wr a n cap ys ∧ ys.length ≤ 1000 * i ∧ Below w.heap.size w wr)
  case atStart => exact ⟨0, none, 0, 0, [], rfl, rfl, by omega, Wb.nil _ _, by simp, HK1.out⟩
  case round =>
   obtain ⟨i, a, n, cap, ys, rfl, rfl, hki, hwb, hyl, hkw⟩ := hrel
   have HKI := Lib.hid hki
   have HKW := Lib.hid hkw
   have HWB := Lib.hid hwb
   have HYL := Lib.hid hyl
   have HN := Lib.hid hwb.1.1
   have hcap := hwb.1.2.le
   clear hki hkw hwb hyl
   by_cases hin : i < ln
   ·have hix : i < l.length := by have := HLN.out; omega
    obtain ⟨⟨b, off, rfl, hbl, hcell⟩, hq⟩ := (HV.out wr HKW.out).2.2.2 i hix
    have HSI := Lib.hid (HSM.out _ (List.getElem_mem hix))
    have HLI := Lib.hid (HLL.out _ (List.getElem_mem hix))
    have HSUB : Hid (∀ w', Below w.heap.size w w' → Qv w' (some ⟨b, off + i * 12, none⟩) 1 (lc - i) [l[i]]) := Lib.hid (fun w' h => (HV.out w' h).sub1 hix)
    clear hq hcell
    generalize l[i] = f at *
    have hz0 : (0 : Int) ≤ (i : Int) := by omega
    have hz1 : (i : Int) < (ln : Int) := by omega
    have hn200 : n ≤ 200000 := by have := HN.out; have := HYL.out; omega
    obtain ⟨g, rfl⟩ : ∃ g, gk = g + 1 := ⟨gk - 1, by have := HKI.out; omega⟩
    have hd9 : decide ((i : Int) < (ln : Int)) = true := by simp; omega
    have hd8 : decide (i < ln) = true := by simp; omega
    go_upto_region 9 with fail
    have HWD : Hid (Wb w.heap.size wr.drew a n cap ys) := Lib.hid (HWB.out.keep ((Keeps.refl (fun _ => False) _).drew) (fun _ _ h => h))
    have HSB : Hid (Sb wr.drew.heap.size wr.drew a n n ys) := Lib.hid ⟨HWD.out.1.tightQ.full (fun b hb => (HWD.out.2 b hb).2.1) (Nat.le_refl _), fun b hb => (HWD.out.2 b hb).2.1⟩
    clear hd9 hd8
    refine wp_region_held (S := fun _ => True) (by kernel_rfl) ?_
    change wpAnyH _ _ _ _ _ _ _ _ (World.drew _)
    have hS : (fun _ : World => True) wr.drew := trivial
    have hi1 : ((i : Int) + 1) ≤ (lc : Int) := by omega
    have hi2 : (i : Int) ≤ (i : Int) + 1 := by omega
    have hi3 : (0 : Int) ≤ (i : Int) + 1 := by omega
    have hi4 : ((i : Int) + 1).toNat = i + 1 := by omega
    have hi5 : ¬ lc = i := by omega
    have hi6 : i + 1 - i = 1 := by omega
    have hi7 : i ≤ i + 1 := by omega
    have hwi : IntKind.i64.wrap ((i : Int) + 1) = (i : Int) + 1 := by rw [IntKind.wrap_i64]; omega
    have hnI : (n : Int) ≤ (cap : Int) := by omega
    refine tH (i := 0) (v := ?_) rfl ?_ hS ?_
    rotate_left
    ·intro wz _; go_simp; try with_reducible rfl
    refine tH (i := 1) (v := ?_) rfl ?_ hS ?_
    rotate_left
    ·intro wz _; go_simp; try with_reducible rfl
    refine tH (i := 2) (v := ?_) rfl ?_ hS ?_
    rotate_left
    ·intro wz _; go_simp; try with_reducible rfl
    refine tH (i := 3) (v := ?_) rfl ?_ hS ?_
    rotate_left
    ·intro wz _; go_simp; try with_reducible rfl
    refine tH (i := 4) (v := ?_) rfl ?_ hS ?_
    rotate_left
    ·intro wz _; go_simp; try with_reducible rfl
    refine tH (i := 5) (v := .slice a n n) rfl ?_ hS ?_
    ·intro wz _; go_simp; try with_reducible rfl
    refine tH (i := 6) (v := ?_) rfl ?_ hS ?_
    rotate_left
    ·intro wz _; go_simp; try with_reducible rfl
    refine tH (i := 7) (v := ?_) rfl ?_ hS ?_
    rotate_left
    ·intro wz _; go_simp; try with_reducible rfl
    refine tH (i := 8) (v := ?_) rfl ?_ hS ?_
    rotate_left
    ·intro wz _; go_simp; try with_reducible rfl
    refine tH (i := 9) (v := .int .i64 ((i : Int) + 1)) rfl ?_ hS ?_
    ·intro wz _; go_simp; try rw [hwi]; try with_reducible rfl
    refine tH (i := 10) (v := .slice (some ⟨b, off + i * 12, none⟩) 1 (lc - i)) rfl ?_ hS ?_
    ·intro wz _; go_simp; try with_reducible rfl
    refine held_call (i := 11) 12 #[.slice a n n, .slice (some ⟨b, off + i * 12, none⟩) 1 (lc - i)] rfl (by kernel_rfl) (by kernel_rfl) (by kernel_rfl) ?_
    refine (rframes_any wr.drew.heap.size a n n ys (some ⟨b, off + i * 12, none⟩) 1 (lc - i) [f] wr.drew HSB.out (fun w' h => HSUB.out w' (HKW.out.drew.trans (h.mono HKW.out.size))) (fun g hg => by
     obtain rfl : g = f := by simpa using hg
     exact HSI.out) (by omega) (by simp) (Nat.le_refl _)).mono ?_
    intro e w4 h4
    have HK4 : Hid (Below w.heap.size w w4) := Lib.hid (HKW.out.drew.trans (h4.below.mono HKW.out.size))
    obtain ⟨hk4, hr4⟩ := h4
    cases hen : encsO ys [f] with
    | none =>
     rw [hen] at hr4
     have hr' : e = .returned (.tuple #[.slice none 0 0, .int .i64 30]) := hr4
     subst hr'
     have HW4 : Hid (Wb w.heap.size w4 a n cap ys) := Lib.hid (HWD.out.keep hk4 (fun b hb h => by have h1 := (HWD.out.2 b hb).2.1; have h2 : wr.drew.heap.size ≤ b := h.1; omega))
     clear hr4 hen hk4
     refine ⟨_, rfl, trivial, ?_⟩
     clear hS
     have hS : (fun _ : World => True) w4 := trivial
     refine tH (i := 12) (v := ?_) rfl ?_ hS ?_
     rotate_left
     ·intro wz _; go_simp; try with_reducible rfl
     refine tH (i := 13) (v := ?_) rfl ?_ hS ?_
     rotate_left
     ·intro wz _; go_simp; try with_reducible rfl
     refine tH (i := 14) (v := ?_) rfl ?_ hS ?_
     rotate_left
     ·intro wz _; go_simp; try with_reducible rfl
     refine tH (i := 15) (v := ?_) rfl ?_ hS ?_
     rotate_left
     ·intro wz _; go_simp; try with_reducible rfl
     refine tH (i := 16) (v := ?_) rfl ?_ hS ?_
     rotate_left
     ·intro wz _; go_simp; try with_reducible rfl
     refine wpAnyH_done (by kernel_rfl) ?_ _
     clear hS hi1 hi2 hi3 hi4 hi5 hi6 hi7 hwi hnI
     refine thenX_named ?_
     intro w5 hw5
     subst hw5
     go_wp2_with fail
     go_roundg g
     case measure => omega
     case rel => exact ⟨i + 1, a, n, cap, ys, rfl, by go_num, by have := HKI.out; omega, HW4.out, by have := HYL.out; omega, HK4.out⟩
    | some zs =>
     rw [hen] at hr4
     obtain ⟨a4, n4, c4, rfl, hs4, hn4⟩ := hr4
     have HW4 : Hid (Wb w.heap.size w4 a4 n4 c4 zs) := Lib.hid (hs4.wb HWD.out rfl HKW.out.size hk4 hn4)
     have HZ4 : Hid (zs.length ≤ ys.length + 1000) := Lib.hid (enc_more hen HLI.out)
     clear hs4 hn4 hen hk4
     refine ⟨_, rfl, trivial, ?_⟩
     clear hS
     have hS : (fun _ : World => True) w4 := trivial
     refine tH (i := 12) (v := ?_) rfl ?_ hS ?_
     rotate_left
     ·intro wz _; go_simp; try with_reducible rfl
     refine tH (i := 13) (v := ?_) rfl ?_ hS ?_
     rotate_left
     ·intro wz _; go_simp; try with_reducible rfl
     refine tH (i := 14) (v := ?_) rfl ?_ hS ?_
     rotate_left
     ·intro wz _; go_simp; try with_reducible rfl
     refine tH (i := 15) (v := ?_) rfl ?_ hS ?_
     rotate_left
     ·intro wz _; go_simp; try with_reducible rfl
     refine tH (i := 16) (v := ?_) rfl ?_ hS ?_
     rotate_left
     ·intro wz _; go_simp; try with_reducible rfl
     refine wpAnyH_done (by kernel_rfl) ?_ _
     clear hS hi1 hi2 hi3 hi4 hi5 hi6 hi7 hwi hnI
     refine thenX_named ?_
     intro w5 hw5
     subst hw5
     go_wp2_with fail
     go_roundg g
     case measure => omega
     case rel => exact ⟨i + 1, a4, n4, c4, zs, rfl, by go_num, by have := HKI.out; omega, HW4.out, by have := HYL.out; have := HZ4.out; omega, HK4.out⟩
   ·have hlt : decide ((i : Int) < (ln : Int)) = false := by simp; omega
    have hlt2 : decide (i < ln) = false := by simp; omega
    have hn200 : n ≤ 20000 := by have := HN.out; have := HYL.out; have := HKI.out; omega
    go_upto_if 65 with fail
    clear hlt hlt2
    go_cut [11] (fun vb wx => ∃ (ab : Option Addr) (nb cb : Nat) (bs' : List UInt8), vb = .slice ab nb cb ∧ nb ≤ 20000 ∧ By wx ab nb cb bs' ∧ (∀ b, ab.map (·.block) = some b → b < wx.heap.size) ∧ Below w.heap.size w wx)
    case first =>
     by_cases hz : n = 0
     ·have hz1 : decide ((0 : Int) < (n : Int)) = false := by simp; omega
      have hz2 : decide (0 < n) = false := by simp; omega
      have hz3 : (n : Int) ≤ 0 := by omega
      go_wp2_with fail
      go_meet
      exact ⟨a, n, cap, ys, rfl, hn200, HWB.out.1, fun b hb => (HWB.out.2 b hb).2.1, HKW.out⟩
     ·have hz1 : decide ((0 : Int) < (n : Int)) = true := by simp; omega
      have hz2 : decide (0 < n) = true := by simp; omega
      obtain ⟨b, off, hab, hbl, hcell⟩ := HWB.out.1.rowR (by omega)
      subst hab
      have hfree := (HWB.out.2 b rfl)
      obtain ⟨j, hj⟩ : ∃ j : Nat, at_ % (n : Int) = (j : Int) := ⟨(at_ % (n : Int)).toNat, by have := Int.emod_nonneg at_ (show (n : Int) ≠ 0 by omega); omega⟩
      have hjI : (j : Int) < (n : Int) := by rw [← hj]; exact Int.emod_lt_of_pos _ (by omega)
      have hj0 : (0 : Int) ≤ (j : Int) := by omega
      have hjb : j < ys.length := by have := HN.out; omega
      have e1 : wr.cell? ⟨b, off + j, none⟩ = some (.int .u8 (ys[j].toNat : Int)) := hcell j hjb
      have e2 : wr.frozen? ⟨b, off + j, none⟩ = false := hfree.2.2 (off + j)
      obtain ⟨d, hdd⟩ := xor8Q ys[j] x x0 x1
      have HD := Lib.hid hdd
      have HT : Hid (By (wr.setCell ⟨b, off + j, none⟩ (B d)) (some ⟨b, off, none⟩) n cap (ys.set j d)) := Lib.hid (HWB.out.1.turn hcell hbl j (by omega) d)
      have HKT : Hid (Below w.heap.size w (wr.setCell ⟨b, off + j, none⟩ (B d))) := Lib.hid (HKW.out.setCell (p := ⟨b, off + j, none⟩) (by show w.heap.size ≤ b; exact hfree.1) (B d))
      have HBL : Hid (∀ k, (some (⟨b, off, none⟩ : Addr)).map (·.block) = some k → k < (wr.setCell ⟨b, off + j, none⟩ (B d)).heap.size) := Lib.hid (fun k hk => by cases hk; simpa using hbl)
      have hpos : 0 < n := by omega
      clear hcell hfree hdd hz hbl
      cases cut with
      | true =>
       go_wp2_with fail
       rw [HD.out]
       go_meet
       exact ⟨some ⟨b, off, none⟩, j, cap, (ys.set j d).take j, rfl, by omega, HT.out.cutR (by omega), HBL.out, HKT.out⟩
      | false =>
       go_wp2_with fail
       rw [HD.out]
       go_meet
       exact ⟨some ⟨b, off, none⟩, n, cap, ys.set j d, rfl, by omega, HT.out, HBL.out, HKT.out⟩
    case rest =>
     obtain ⟨ab, nb, cb, bs', rfl, hnb, hby, hlt2, hk⟩ := hcut
     have HK5 : Hid (Below w.heap.size w (wc.alloc (.cells #[.slice ar nr cr, .slice ab nb cb] 22 (0, 0)))) := Lib.hid (hk.alloc hk.size _)
     have HB5 : Hid (Blk (wc.alloc (.cells #[.slice ar nr cr, .slice ab nb cb] 22 (0, 0))) wc.heap.size #[.slice ar nr cr, .slice ab nb cb] 22) := Lib.hid (Blk.new wc _ _)
     have HY5 : Hid (By (wc.alloc (.cells #[.slice ar nr cr, .slice ab nb cb] 22 (0, 0))) ab nb cb bs') := Lib.hid (hby.keep ((Keeps.refl (fun _ => False) _).alloc _) (fun _ _ h => h))
     have HSZ : Hid ((wc.alloc (.cells #[.slice ar nr cr, .slice ab nb cb] 22 (0, 0))).heap.size = wc.heap.size + 1) := Lib.hid (by simp)
     have HLTB := Lib.hid hlt2
     clear hby hlt2 hk
     go_wp2_with fail
     generalize (wc.alloc (.cells #[.slice ar nr cr, .slice ab nb cb] 22 (0, 0))) = w5 at *
     go_loopg [86] 2 (fun k vi wr => ∃ (iz : Nat), k + iz = 2 ∧ vi = .int .i64 (iz : Int) ∧ Below w5.heap.size w5 wr)
     case atStart => exact ⟨0, by omega, rfl, Below.refl _ _⟩
     case round =>
      obtain ⟨iz, hi, rfl, hkw⟩ := hrel
      have HI := Lib.hid hi
      have HKW := Lib.hid hkw
      clear hi hkw
      have HKR := Lib.hid (HK5.out.trans (HKW.out.mono HK5.out.size))
      by_cases hi2 : iz < 2
      ·obtain ⟨ay, ny, cy, ys, hc0, hny, hst, hyl⟩ : ∃ (ay : Option Addr) (ny cy : Nat) (ys : List UInt8), wr.cell? ⟨wc.heap.size, iz, none⟩ = some (.slice ay ny cy) ∧ ny ≤ 20000 ∧ (∀ w', Below wr.heap.size wr w' → By w' ay ny cy ys) ∧ ∀ b, ay.map (·.block) = some b → b < wr.heap.size := by
        have hb := (Below.keeps HKW.out).blk HB5.out (by rw [HSZ.out]; omega)
        have hcase : iz = 0 ∨ iz = 1 := by omega
        rcases hcase with rfl | rfl
        ·exact ⟨ar, nr, cr, xs, by rw [hb.cell]; rfl, by omega, fun w'' h => HBB.out w'' (HKR.out.trans (h.mono HKR.out.size)), fun b hb => by have := HLT.out b hb; have := HKR.out.size; omega⟩
        ·exact ⟨ab, nb, cb, bs', by rw [hb.cell]; rfl, by omega, fun w'' h => HY5.out.below (HKW.out.trans (h.mono HKW.out.size)) (fun b hb => by rw [HSZ.out]; have := HLTB.out b hb; omega), fun b hb => by have := HLTB.out b hb; have := HSZ.out; have := HKW.out.size; omega⟩
       have hi0 : (0 : Int) ≤ (iz : Int) := by omega
       have hd1 : decide ((iz : Int) < 2) = true := by simp; omega
       have hd2 : decide (iz < 2) = true := by simp; omega
       have HST := Lib.hid hst
       have HYL := Lib.hid hyl
       have HNY : Hid (ny = ys.length) := Lib.hid (hst wr (Below.refl _ _)).1
       have HAB := Lib.hid (all_bd ys)
       have HRC := Lib.hid (rdC_rs ys)
       obtain ⟨gg, rfl⟩ : ∃ g, gk = g + 1 := ⟨gk - 1, by have := HI.out; omega⟩
       clear hst hyl
       go_wp2_with fail
       clear hc0
       refine (qall_any ay ny cy ys wr (HST.out wr (Below.refl _ _)) (by omega) HYL.out).mono ?_
       intro e w7 h7
       obtain ⟨a7, c7, l7, rfl, hl7, hq7, hk7⟩ := h7.gen
       have HL7 := Lib.hid hl7
       have HQ7 := Lib.hid hq7
       have HK7 := Lib.hid hk7
       have HWR : Hid (w5.heap.size ≤ wr.heap.size) := Lib.hid HKW.out.size
       clear h7 hl7 hq7 hk7
       obtain ⟨E, hE⟩ : ∃ E, allE (allQ ys) = E := ⟨_, rfl⟩
       rw [hE]
       have HE := Lib.hid hE
       clear hE
       go_wp2_with fail
       refine (rall_any ay ny cy ys w7 (HST.out w7 HK7.out) (by omega) (fun b hb => Nat.lt_of_lt_of_le (HYL.out b hb) HK7.out.size)).mono ?_
       intro e w8 h8
       obtain ⟨a8, c8, l8, rfl, hl8, hq8, hk8⟩ := h8.gen
       have HL8 := Lib.hid hl8
       have HQ8 := Lib.hid hq8
       have HK78 := Lib.hid (HK7.out.trans (hk8.mono HK7.out.size))
       have HQ78 := Lib.hid (HQ7.out.keep (Below.keeps hk8) (fun b hb => Or.inr hb))
       have HZ8 : Hid (wr.heap.size ≤ w7.heap.size ∧ w7.heap.size ≤ w8.heap.size) := Lib.hid ⟨HK7.out.size, hk8.size⟩
       clear h8 hl8 hq8 hk8
       rw [HE.out]
       go_wp2_with fail
       refine (qread_any ay ny cy ys w8 (HST.out w8 HK78.out) (by omega) (fun b hb => Nat.lt_of_lt_of_le (HYL.out b hb) HK78.out.size)).mono ?_
       intro e w9 h9
       obtain ⟨f, rfl, hfc, hqf, hk9⟩ := h9.gen
       have HFC := Lib.hid hfc
       have HQF := Lib.hid hqf
       have HK9 := Lib.hid (HK78.out.trans (hk9.mono HK78.out.size))
       have HQ79 := Lib.hid (HQ78.out.keep (Below.keeps hk9) (fun b hb => Or.inr hb))
       have HQ89 := Lib.hid (HQ8.out.keep (Below.keeps hk9) (fun b hb => Or.inr hb))
       have HZ9 : Hid (w8.heap.size ≤ w9.heap.size) := Lib.hid hk9.size
       clear h9 hfc hqf hk9
       obtain ⟨M, hM⟩ : ∃ M, rdN ny (decQ ys) = M := ⟨_, rfl⟩
       obtain ⟨R, hR⟩ : ∃ R, rdE (decQ ys) = R := ⟨_, rfl⟩
       rw [hM, hR]
       have HM := Lib.hid hM
       have HR := Lib.hid hR
       clear hM hR
       unfold Qf.cs
       go_upto_region 23 with fail
       refine wp_named ?_
       intro w10 hw10
       have HA10 : Hid (Keeps (fun _ => False) w9 w10) := Lib.hid (by rw [← hw10]; exact (Keeps.refl _ _).alloc _)
       have HF10 : Hid (Blk w10 w9.heap.size f.cs 32) := Lib.hid (by rw [← hw10]; exact Blk.new _ _ _)
       have HK10 : Hid (Below wr.heap.size wr w10) := Lib.hid (Keeps.below HK9.out HA10.out HK9.out.size (fun _ h => False.elim h))
       have HQ7a := Lib.hid (HQ79.out.keep HA10.out (fun _ h => False.elim h))
       have HQ8a := Lib.hid (HQ89.out.keep HA10.out (fun _ h => False.elim h))
       have HQFa := Lib.hid (HQF.out.keep HA10.out (fun _ h => False.elim h))
       clear hw10
       go_wp2_with fail
       refine (rreadframe_any ay ny cy ys w10 (HST.out w10 HK10.out) (by omega) (fun b hb => Nat.lt_of_lt_of_le (HYL.out b hb) HK10.out.size)).mono ?_
       intro e w11 h11
       obtain ⟨g, rfl, hgc, hqg, hk11⟩ := h11.gen
       have HGC := Lib.hid (hgc.trans HFC.out.symm)
       have HQG := Lib.hid hqg
       have HK11 := Lib.hid (HK10.out.trans (hk11.mono HK10.out.size))
       have HQ7b := Lib.hid (HQ7a.out.keep (Below.keeps hk11) (fun b hb => Or.inr hb))
       have HQ8b := Lib.hid (HQ8a.out.keep (Below.keeps hk11) (fun b hb => Or.inr hb))
       have HQFb := Lib.hid (HQFa.out.keep (Below.keeps hk11) (fun b hb h => by have := h.2; omega))
       have HF11 := Lib.hid ((Below.keeps hk11).blk HF10.out (by have := HF10.out.lt; omega))
       clear h11 hgc hqg hk11
       rw [HM.out, HR.out]
       unfold Qf.cs
       go_upto_region 24 with fail
       refine wp_named ?_
       intro w12 hw12
       have HA12 : Hid (Keeps (fun _ => False) w11 w12) := Lib.hid (by rw [← hw12]; exact (Keeps.refl _ _).alloc _)
       have HG12 : Hid (Blk w12 w11.heap.size g.cs 32) := Lib.hid (by rw [← hw12]; exact Blk.new _ _ _)
       have HK12 : Hid (Below wr.heap.size wr w12) := Lib.hid (Keeps.below HK11.out HA12.out HK11.out.size (fun _ h => False.elim h))
       have HQ7c := Lib.hid (HQ7b.out.keep HA12.out (fun _ h => False.elim h))
       have HQ8c := Lib.hid (HQ8b.out.keep HA12.out (fun _ h => False.elim h))
       have HQFc := Lib.hid (HQFb.out.keep HA12.out (fun _ h => False.elim h))
       have HQGc := Lib.hid (HQG.out.keep HA12.out (fun _ h => False.elim h))
       have HF12 := Lib.hid (HA12.out.blk HF11.out (fun h => h))
       clear hw12
       go_wp2_with fail
       refine (qframes_eq a7 l7.length c7 a8 l8.length c8 l7 l8 w12 (fun w' h => (HQ7c.out.keep h (fun _ h => False.elim h)).qv) (fun w' h => (HQ8c.out.keep h (fun _ h => False.elim h)).qv) (HL7.out.trans HL8.out.symm) (fun f hf => by
        have := HAB.out.2 f.c (by rw [← HL7.out]; exact List.mem_map_of_mem hf)
        omega) (by
        have h1 := HAB.out.1
        rw [← HL7.out, List.length_map] at h1
        have := HNY.out
        omega)).mono ?_
       rintro e w13 ⟨rfl, hk13⟩
       have HK13 : Hid (Below wr.heap.size wr w13) := Lib.hid (Keeps.below HK12.out hk13 HK12.out.size (fun _ h => False.elim h))
       have HQ7d := Lib.hid (HQ7c.out.keep hk13 (fun _ h => False.elim h))
       have HQFd := Lib.hid (HQFc.out.keep hk13 (fun _ h => False.elim h))
       have HQGd := Lib.hid (HQGc.out.keep hk13 (fun _ h => False.elim h))
       have hF13 := hk13.blk HF12.out (fun h => h)
       have hG13 := hk13.blk HG12.out (fun h => h)
       have hQF := qframe_eq f g w13 HGC.out (fun w' h => (HQFd.out.keep h (fun _ h => False.elim h)).q) (fun w' h => (HQGd.out.keep h (fun _ h => False.elim h)).q) (by rw [HFC.out]; have := HRC.out; omega)
       have HQFE := Lib.hid hQF
       unfold Qf.cs at hF13 hG13
       obtain ⟨x0, x1, x2, x3, x4, x5, x6, x7, x8, x9, x10, x11⟩ := q12_cells hF13
       obtain ⟨y0, y1, y2, y3, y4, y5, y6, y7, y8, y9, y10, y11⟩ := q12_cells hG13
       clear hk13 hF13 hG13 hQF
       go_wp2_with fail
       clear x0 x1 x2 x3 x4 x5 x6 x7 x8 x9 x10 x11 y0 y1 y2 y3 y4 y5 y6 y7 y8 y9 y10 y11
       refine HQFE.out.mono ?_
       rintro e w14 ⟨rfl, hk14⟩
       have HK14 : Hid (Below wr.heap.size wr w14) := Lib.hid (Keeps.below HK13.out hk14 HK13.out.size (fun _ h => False.elim h))
       have HQ7e := Lib.hid (HQ7d.out.keep hk14 (fun _ h => False.elim h))
       clear hk14
       have HB0 : Hid (wr.heap.size ≤ w14.heap.size) := Lib.hid HK14.out.size
       generalize wr.heap.size = B0 at *
       go_wp2_with fail
       generalize (Value.agg #[.int .u64 f.c.t, .int .u64 f.c.id, .int .u64 f.c.off, .bool f.c.fin, .int .u64 f.c.mx, .int .u64 f.c.code, .int .u64 f.c.delay, .slice f.ra f.rn f.rc, .slice f.a f.n f.cap, .bool f.c.uni, .bool f.c.app, .int .i64 f.c.N]) = VF
       generalize (Value.agg #[.int .u64 g.c.t, .int .u64 g.c.id, .int .u64 g.c.off, .bool g.c.fin, .int .u64 g.c.mx, .int .u64 g.c.code, .int .u64 g.c.delay, .slice g.ra g.rn g.rc, .slice g.a g.n g.cap, .bool g.c.uni, .bool g.c.app, .int .i64 g.c.N]) = VG
       have hl7b : l7.length ≤ 30000 := by
        have h1 := HAB.out.1
        rw [← HL7.out, List.length_map] at h1
        have := HNY.out
        omega
       go_loopg [28] l7.length (fun k vi wr2 => ∃ j : Nat, vi = .int .i64 (j : Int) ∧ k + j = l7.length ∧ Keeps (fun _ => False) w14 wr2)
       case atStart => exact ⟨0, rfl, by omega, Keeps.refl _ _⟩
       case round =>
        obtain ⟨j, rfl, hkj, hkx⟩ := hrel
        have HKJ := Lib.hid hkj
        have HKX := Lib.hid hkx
        clear hkj hkx
        by_cases hjn : j < l7.length
        ·obtain ⟨⟨b1, o1, hab, hb1, hcell⟩, hq⟩ := (HQ7e.out.keep HKX.out (fun _ h => False.elim h)).qv.2.2.2 j hjn
         subst hab
         clear hq
         generalize l7[j] = fj at *
         have p0 : wr.cell? ⟨b1, o1 + j * 12 + 0, none⟩ = some (.int .u64 fj.c.t) := hcell 0 _ rfl
         have p1 : wr.cell? ⟨b1, o1 + j * 12 + 1, none⟩ = some (.int .u64 fj.c.id) := hcell 1 _ rfl
         have p2 : wr.cell? ⟨b1, o1 + j * 12 + 2, none⟩ = some (.int .u64 fj.c.off) := hcell 2 _ rfl
         have p3 : wr.cell? ⟨b1, o1 + j * 12 + 3, none⟩ = some (.bool fj.c.fin) := hcell 3 _ rfl
         have p4 : wr.cell? ⟨b1, o1 + j * 12 + 4, none⟩ = some (.int .u64 fj.c.mx) := hcell 4 _ rfl
         have p5 : wr.cell? ⟨b1, o1 + j * 12 + 5, none⟩ = some (.int .u64 fj.c.code) := hcell 5 _ rfl
         have p6 : wr.cell? ⟨b1, o1 + j * 12 + 6, none⟩ = some (.int .u64 fj.c.delay) := hcell 6 _ rfl
         have p7 : wr.cell? ⟨b1, o1 + j * 12 + 7, none⟩ = some (.slice fj.ra fj.rn fj.rc) := hcell 7 _ rfl
         have p8 : wr.cell? ⟨b1, o1 + j * 12 + 8, none⟩ = some (.slice fj.a fj.n fj.cap) := hcell 8 _ rfl
         have p9 : wr.cell? ⟨b1, o1 + j * 12 + 9, none⟩ = some (.bool fj.c.uni) := hcell 9 _ rfl
         have p10 : wr.cell? ⟨b1, o1 + j * 12 + 10, none⟩ = some (.bool fj.c.app) := hcell 10 _ rfl
         have p11 : wr.cell? ⟨b1, o1 + j * 12 + 11, none⟩ = some (.int .i64 fj.c.N) := hcell 11 _ rfl
         simp only [Nat.add_zero] at p0
         clear hcell
         have hz0 : (0 : Int) ≤ (j : Int) := by omega
         have hz1 : (j : Int) < (l7.length : Int) := by omega
         obtain ⟨g2, rfl⟩ : ∃ g, gk = g + 1 := ⟨gk - 1, by have := HKJ.out; omega⟩
         go_wp2_with fail
         by_cases t0 : fj.c.t = 0
         ·skip
          have q0 : (fj.c.t != 0) = false := by simp; omega
          have HEV : Hid ((fj.c.t != 0 && (fj.c.t != 2 && fj.c.t != 28)) = false) := Lib.hid (by rw [t0]; rfl)
          refine wp_region_held (S := fun w' : World => Keeps (fun _ => False) wr w') (by kernel_rfl) ?_
          change wpAnyH _ _ _ _ _ _ _ _ (World.drew _)
          have hS : (fun w' : World => Keeps (fun _ => False) wr w') wr.drew := (Keeps.refl _ _).drew
          refine tH (i := 0) (v := ?_) rfl ?_ hS ?_
          rotate_left
          ·intro wz hz; go_simp; try with_reducible rfl
          refine tH (i := 1) (v := ?_) rfl ?_ hS ?_
          rotate_left
          ·intro wz hz; go_simp; try with_reducible rfl
          refine tH (i := 2) (v := ?_) rfl ?_ hS ?_
          rotate_left
          ·intro wz hz; go_simp; try with_reducible rfl
          refine tH (i := 3) (v := .agg fj.cs) rfl ?_ hS ?_
          ·intro wz hz; have r0 := at_keep hz hb1 p0; have r1 := at_keep hz hb1 p1; have r2 := at_keep hz hb1 p2; have r3 := at_keep hz hb1 p3; have r4 := at_keep hz hb1 p4; have r5 := at_keep hz hb1 p5; have r6 := at_keep hz hb1 p6; have r7 := at_keep hz hb1 p7; have r8 := at_keep hz hb1 p8; have r9 := at_keep hz hb1 p9; have r10 := at_keep hz hb1 p10; have r11 := at_keep hz hb1 p11; unfold Qf.cs; go_simp; try with_reducible rfl
          refine tH (i := 5) (v := ?_) rfl ?_ hS ?_
          rotate_left
          ·intro wz hz; go_simp; try with_reducible rfl
          refine tH (i := 6) (v := ?_) rfl ?_ hS ?_
          rotate_left
          ·intro wz hz; go_simp; try with_reducible rfl
          refine tH (i := 7) (v := ?_) rfl ?_ hS ?_
          rotate_left
          ·intro wz hz; go_simp; try with_reducible rfl
          refine tH (i := 8) (v := ?_) rfl ?_ hS ?_
          rotate_left
          ·intro wz hz; go_simp; try with_reducible rfl
          refine tH (i := 9) (v := .int .u64 fj.c.t) rfl ?_ hS ?_
          ·intro wz hz; have r0 := at_keep hz hb1 p0; go_simp; try with_reducible rfl
          refine tH (i := 10) (v := .bool false) rfl ?_ hS ?_
          ·intro wz hz; go_simp; try with_reducible rfl
          refine held_call (i := 4) 20 #[.agg fj.cs] rfl (by kernel_rfl) (by kernel_rfl) (by kernel_rfl) ?_
          refine (eager_any fj wr.drew).mono ?_
          rintro e w20 ⟨rfl, hk20⟩
          rw [HEV.out]
          have HK20 : Hid (Keeps (fun _ => False) wr w20) := Lib.hid (((Keeps.refl (fun _ => False) wr).drew).trans hk20)
          refine ⟨_, rfl, HK20.out, ?_⟩
          clear hS hk20
          have hS : (fun w' : World => Keeps (fun _ => False) wr w') w20 := HK20.out
          refine tH (i := 11) (v := ?_) rfl ?_ hS ?_
          rotate_left
          ·intro wz hz; go_simp; try with_reducible rfl
          refine tS (i := 12) rfl hS ?_
          refine tS (i := 13) rfl hS ?_
          refine tS (i := 14) rfl hS ?_
          refine tS (i := 15) rfl hS ?_
          refine tS (i := 16) rfl hS ?_
          refine tS (i := 17) rfl hS ?_
          refine tH (i := 18) (v := .bool false) rfl ?_ hS ?_
          ·intro wz hz; go_simp; try with_reducible rfl
          refine tH (i := 19) (v := ?_) rfl ?_ hS ?_
          rotate_left
          ·intro wz hz; go_simp; try with_reducible rfl
          refine tS (i := 20) rfl hS ?_
          refine tS (i := 21) rfl hS ?_
          refine tS (i := 22) rfl hS ?_
          refine tS (i := 23) rfl hS ?_
          refine tS (i := 24) rfl hS ?_
          refine tS (i := 25) rfl hS ?_
          refine tH (i := 26) (v := .bool false) rfl ?_ hS ?_
          ·intro wz hz; go_simp; try with_reducible rfl
          refine tH (i := 27) (v := .bool false) rfl ?_ hS ?_
          ·intro wz hz; go_simp; try with_reducible rfl
          refine wpAnyH_done (by kernel_rfl) ?_ _
          clear hS p0 p1 p2 p3 p4 p5 p6 p7 p8 p9 p10 p11
          refine then_frame (b := { tmps := #[.slice ar nr cr, .slice la ln lc, .int .u16 at_, .int .u8 x, .bool cut, undef, undef, undef, undef, undef, u10, .slice ab nb cb, .int .i64 (i : Int), u13, u14, u15, undef, .slice ay ny cy, .slice (some ⟨b1, o1, none⟩) l7.length c7, .int .i64 E, .slice a8 l8.length c8, .int .i64 E, .pointer (some ⟨w9.heap.size, 0, none⟩), .int .i64 M, .int .i64 R, .pointer (some ⟨w11.heap.size, 0, none⟩), .int .i64 M, .int .i64 R, .int .i64 (j : Int), u29, u30, u31, u32, u33, u34, u35, u36, u37, u38, u39, u40, u41, u42, u43, u44, u45, u46, u47, u48, u49, u50, u51, u52, u53, u54, u55, u56, u57, u58, u59, u60, u61, u62, u63, u64, u65, u66, u67, u68, u69, u70, u71, u72, u73, u74, u75, u76, u77, u78, u79, u80, u81, .slice ar nr cr, .slice ab nb cb, .slice (some ⟨wc.heap.size, 0, none⟩) 2 2, .int .i64 2, .int .i64 (iz : Int), .bool true, .pointer (some ⟨wc.heap.size, iz, none⟩), .slice ay ny cy, .tuple #[.slice (some ⟨b1, o1, none⟩) l7.length c7, .int .i64 E], .slice ay ny cy, .tuple #[.slice (some ⟨b1, o1, none⟩) l7.length c7, .int .i64 E], .slice (some ⟨b1, o1, none⟩) l7.length c7, .int .i64 E, .tuple #[.slice a8 l8.length c8, .int .i64 E], .slice ay ny cy, .tuple #[.slice a8 l8.length c8, .int .i64 E], .slice a8 l8.length c8, .int .i64 E, .tuple #[VF, .int .i64 M, .int .i64 R], .slice ay ny cy, .tuple #[VF, .int .i64 M, .int .i64 R], VF, .int .i64 M, .int .i64 R, .tuple #[VG, .int .i64 M, .int .i64 R], .slice ay ny cy, .tuple #[VG, .int .i64 M, .int .i64 R], VG, .int .i64 M, .int .i64 R, .int .i64 E, .int .i64 E, .bool false, .bool false, .slice (some ⟨b1, o1, none⟩) l7.length c7, .slice a8 l8.length c8, .bool true, .bool false, .bool false, .bool false, VF, VG, .bool true, .bool false, .bool false, .bool false, .int .i64 M, .int .i64 M, .bool false, .bool false, .bool false, .int .i64 R, .int .i64 R, .bool false, .bool false, .int .i64 (j : Int), .slice (some ⟨b1, o1, none⟩) l7.length c7, .int .i64 (l7.length : Int), .bool true, u141, u142, .slice (some ⟨b1, o1, none⟩) l7.length c7, .int .i64 (j : Int), .pointer (some ⟨b1, o1 + j * 12, none⟩), .agg fj.cs, .bool false, .slice (some ⟨b1, o1, none⟩) l7.length c7, .int .i64 (j : Int), .pointer (some ⟨b1, o1 + j * 12, none⟩), .pointer (some ⟨b1, o1 + j * 12, none⟩), .int .u64 fj.c.t, .bool false, .bool false, undef, undef, undef, undef, undef, undef, .bool false, .bool false, undef, undef, undef, undef, undef, undef, .bool false, .bool false, u171], defers := [] }) (by kernel_rfl) ?_
          generalize fj.cs = vf
          go_wp2_with fail
          go_roundg g2
          case measure => omega
          case rel => exact ⟨j + 1, by go_num, by have := HKJ.out; omega, HKX.out.trans HK20.out⟩
         by_cases t2 : fj.c.t = 2
         ·skip
          have q0 : (fj.c.t != 0) = true := by simp; omega
          have q2 : (fj.c.t != 2) = false := by simp; omega
          have HEV : Hid ((fj.c.t != 0 && (fj.c.t != 2 && fj.c.t != 28)) = false) := Lib.hid (by rw [t2]; rfl)
          refine wp_region_held (S := fun w' : World => Keeps (fun _ => False) wr w') (by kernel_rfl) ?_
          change wpAnyH _ _ _ _ _ _ _ _ (World.drew _)
          have hS : (fun w' : World => Keeps (fun _ => False) wr w') wr.drew := (Keeps.refl _ _).drew
          refine tH (i := 0) (v := ?_) rfl ?_ hS ?_
          rotate_left
          ·intro wz hz; go_simp; try with_reducible rfl
          refine tH (i := 1) (v := ?_) rfl ?_ hS ?_
          rotate_left
          ·intro wz hz; go_simp; try with_reducible rfl
          refine tH (i := 2) (v := ?_) rfl ?_ hS ?_
          rotate_left
          ·intro wz hz; go_simp; try with_reducible rfl
          refine tH (i := 3) (v := .agg fj.cs) rfl ?_ hS ?_
          ·intro wz hz; have r0 := at_keep hz hb1 p0; have r1 := at_keep hz hb1 p1; have r2 := at_keep hz hb1 p2; have r3 := at_keep hz hb1 p3; have r4 := at_keep hz hb1 p4; have r5 := at_keep hz hb1 p5; have r6 := at_keep hz hb1 p6; have r7 := at_keep hz hb1 p7; have r8 := at_keep hz hb1 p8; have r9 := at_keep hz hb1 p9; have r10 := at_keep hz hb1 p10; have r11 := at_keep hz hb1 p11; unfold Qf.cs; go_simp; try with_reducible rfl
          refine tH (i := 5) (v := ?_) rfl ?_ hS ?_
          rotate_left
          ·intro wz hz; go_simp; try with_reducible rfl
          refine tH (i := 6) (v := ?_) rfl ?_ hS ?_
          rotate_left
          ·intro wz hz; go_simp; try with_reducible rfl
          refine tH (i := 7) (v := ?_) rfl ?_ hS ?_
          rotate_left
          ·intro wz hz; go_simp; try with_reducible rfl
          refine tH (i := 8) (v := ?_) rfl ?_ hS ?_
          rotate_left
          ·intro wz hz; go_simp; try with_reducible rfl
          refine tH (i := 9) (v := .int .u64 fj.c.t) rfl ?_ hS ?_
          ·intro wz hz; have r0 := at_keep hz hb1 p0; go_simp; try with_reducible rfl
          refine tH (i := 10) (v := .bool true) rfl ?_ hS ?_
          ·intro wz hz; go_simp; try with_reducible rfl
          refine held_call (i := 4) 20 #[.agg fj.cs] rfl (by kernel_rfl) (by kernel_rfl) (by kernel_rfl) ?_
          refine (eager_any fj wr.drew).mono ?_
          rintro e w20 ⟨rfl, hk20⟩
          rw [HEV.out]
          have HK20 : Hid (Keeps (fun _ => False) wr w20) := Lib.hid (((Keeps.refl (fun _ => False) wr).drew).trans hk20)
          refine ⟨_, rfl, HK20.out, ?_⟩
          clear hS hk20
          have hS : (fun w' : World => Keeps (fun _ => False) wr w') w20 := HK20.out
          refine tH (i := 11) (v := ?_) rfl ?_ hS ?_
          rotate_left
          ·intro wz hz; go_simp; try with_reducible rfl
          refine tH (i := 12) (v := ?_) rfl ?_ hS ?_
          rotate_left
          ·intro wz hz; go_simp; try with_reducible rfl
          refine tH (i := 13) (v := ?_) rfl ?_ hS ?_
          rotate_left
          ·intro wz hz; go_simp; try with_reducible rfl
          refine tH (i := 14) (v := ?_) rfl ?_ hS ?_
          rotate_left
          ·intro wz hz; go_simp; try with_reducible rfl
          refine tH (i := 15) (v := ?_) rfl ?_ hS ?_
          rotate_left
          ·intro wz hz; go_simp; try with_reducible rfl
          refine tH (i := 16) (v := .int .u64 fj.c.t) rfl ?_ hS ?_
          ·intro wz hz; have r0 := at_keep hz hb1 p0; go_simp; try with_reducible rfl
          refine tH (i := 17) (v := .bool false) rfl ?_ hS ?_
          ·intro wz hz; go_simp; try with_reducible rfl
          refine tH (i := 18) (v := .bool false) rfl ?_ hS ?_
          ·intro wz hz; go_simp; try with_reducible rfl
          refine tH (i := 19) (v := ?_) rfl ?_ hS ?_
          rotate_left
          ·intro wz hz; go_simp; try with_reducible rfl
          refine tS (i := 20) rfl hS ?_
          refine tS (i := 21) rfl hS ?_
          refine tS (i := 22) rfl hS ?_
          refine tS (i := 23) rfl hS ?_
          refine tS (i := 24) rfl hS ?_
          refine tS (i := 25) rfl hS ?_
          refine tH (i := 26) (v := .bool false) rfl ?_ hS ?_
          ·intro wz hz; go_simp; try with_reducible rfl
          refine tH (i := 27) (v := .bool false) rfl ?_ hS ?_
          ·intro wz hz; go_simp; try with_reducible rfl
          refine wpAnyH_done (by kernel_rfl) ?_ _
          clear hS p0 p1 p2 p3 p4 p5 p6 p7 p8 p9 p10 p11
          refine then_frame (b := { tmps := #[.slice ar nr cr, .slice la ln lc, .int .u16 at_, .int .u8 x, .bool cut, undef, undef, undef, undef, undef, u10, .slice ab nb cb, .int .i64 (i : Int), u13, u14, u15, undef, .slice ay ny cy, .slice (some ⟨b1, o1, none⟩) l7.length c7, .int .i64 E, .slice a8 l8.length c8, .int .i64 E, .pointer (some ⟨w9.heap.size, 0, none⟩), .int .i64 M, .int .i64 R, .pointer (some ⟨w11.heap.size, 0, none⟩), .int .i64 M, .int .i64 R, .int .i64 (j : Int), u29, u30, u31, u32, u33, u34, u35, u36, u37, u38, u39, u40, u41, u42, u43, u44, u45, u46, u47, u48, u49, u50, u51, u52, u53, u54, u55, u56, u57, u58, u59, u60, u61, u62, u63, u64, u65, u66, u67, u68, u69, u70, u71, u72, u73, u74, u75, u76, u77, u78, u79, u80, u81, .slice ar nr cr, .slice ab nb cb, .slice (some ⟨wc.heap.size, 0, none⟩) 2 2, .int .i64 2, .int .i64 (iz : Int), .bool true, .pointer (some ⟨wc.heap.size, iz, none⟩), .slice ay ny cy, .tuple #[.slice (some ⟨b1, o1, none⟩) l7.length c7, .int .i64 E], .slice ay ny cy, .tuple #[.slice (some ⟨b1, o1, none⟩) l7.length c7, .int .i64 E], .slice (some ⟨b1, o1, none⟩) l7.length c7, .int .i64 E, .tuple #[.slice a8 l8.length c8, .int .i64 E], .slice ay ny cy, .tuple #[.slice a8 l8.length c8, .int .i64 E], .slice a8 l8.length c8, .int .i64 E, .tuple #[VF, .int .i64 M, .int .i64 R], .slice ay ny cy, .tuple #[VF, .int .i64 M, .int .i64 R], VF, .int .i64 M, .int .i64 R, .tuple #[VG, .int .i64 M, .int .i64 R], .slice ay ny cy, .tuple #[VG, .int .i64 M, .int .i64 R], VG, .int .i64 M, .int .i64 R, .int .i64 E, .int .i64 E, .bool false, .bool false, .slice (some ⟨b1, o1, none⟩) l7.length c7, .slice a8 l8.length c8, .bool true, .bool false, .bool false, .bool false, VF, VG, .bool true, .bool false, .bool false, .bool false, .int .i64 M, .int .i64 M, .bool false, .bool false, .bool false, .int .i64 R, .int .i64 R, .bool false, .bool false, .int .i64 (j : Int), .slice (some ⟨b1, o1, none⟩) l7.length c7, .int .i64 (l7.length : Int), .bool true, u141, u142, .slice (some ⟨b1, o1, none⟩) l7.length c7, .int .i64 (j : Int), .pointer (some ⟨b1, o1 + j * 12, none⟩), .agg fj.cs, .bool false, .slice (some ⟨b1, o1, none⟩) l7.length c7, .int .i64 (j : Int), .pointer (some ⟨b1, o1 + j * 12, none⟩), .pointer (some ⟨b1, o1 + j * 12, none⟩), .int .u64 fj.c.t, .bool true, .bool true, .slice (some ⟨b1, o1, none⟩) l7.length c7, .int .i64 (j : Int), .pointer (some ⟨b1, o1 + j * 12, none⟩), .pointer (some ⟨b1, o1 + j * 12, none⟩), .int .u64 fj.c.t, .bool false, .bool false, .bool false, undef, undef, undef, undef, undef, undef, .bool false, .bool false, u171], defers := [] }) (by kernel_rfl) ?_
          generalize fj.cs = vf
          go_wp2_with fail
          go_roundg g2
          case measure => omega
          case rel => exact ⟨j + 1, by go_num, by have := HKJ.out; omega, HKX.out.trans HK20.out⟩
         by_cases t28 : fj.c.t = 28
         ·skip
          have q0 : (fj.c.t != 0) = true := by simp; omega
          have q2 : (fj.c.t != 2) = true := by simp; omega
          have q28 : (fj.c.t != 28) = false := by simp; omega
          have HEV : Hid ((fj.c.t != 0 && (fj.c.t != 2 && fj.c.t != 28)) = false) := Lib.hid (by rw [t28]; rfl)
          refine wp_region_held (S := fun w' : World => Keeps (fun _ => False) wr w') (by kernel_rfl) ?_
          change wpAnyH _ _ _ _ _ _ _ _ (World.drew _)
          have hS : (fun w' : World => Keeps (fun _ => False) wr w') wr.drew := (Keeps.refl _ _).drew
          refine tH (i := 0) (v := ?_) rfl ?_ hS ?_
          rotate_left
          ·intro wz hz; go_simp; try with_reducible rfl
          refine tH (i := 1) (v := ?_) rfl ?_ hS ?_
          rotate_left
          ·intro wz hz; go_simp; try with_reducible rfl
          refine tH (i := 2) (v := ?_) rfl ?_ hS ?_
          rotate_left
          ·intro wz hz; go_simp; try with_reducible rfl
          refine tH (i := 3) (v := .agg fj.cs) rfl ?_ hS ?_
          ·intro wz hz; have r0 := at_keep hz hb1 p0; have r1 := at_keep hz hb1 p1; have r2 := at_keep hz hb1 p2; have r3 := at_keep hz hb1 p3; have r4 := at_keep hz hb1 p4; have r5 := at_keep hz hb1 p5; have r6 := at_keep hz hb1 p6; have r7 := at_keep hz hb1 p7; have r8 := at_keep hz hb1 p8; have r9 := at_keep hz hb1 p9; have r10 := at_keep hz hb1 p10; have r11 := at_keep hz hb1 p11; unfold Qf.cs; go_simp; try with_reducible rfl
          refine tH (i := 5) (v := ?_) rfl ?_ hS ?_
          rotate_left
          ·intro wz hz; go_simp; try with_reducible rfl
          refine tH (i := 6) (v := ?_) rfl ?_ hS ?_
          rotate_left
          ·intro wz hz; go_simp; try with_reducible rfl
          refine tH (i := 7) (v := ?_) rfl ?_ hS ?_
          rotate_left
          ·intro wz hz; go_simp; try with_reducible rfl
          refine tH (i := 8) (v := ?_) rfl ?_ hS ?_
          rotate_left
          ·intro wz hz; go_simp; try with_reducible rfl
          refine tH (i := 9) (v := .int .u64 fj.c.t) rfl ?_ hS ?_
          ·intro wz hz; have r0 := at_keep hz hb1 p0; go_simp; try with_reducible rfl
          refine tH (i := 10) (v := .bool true) rfl ?_ hS ?_
          ·intro wz hz; go_simp; try with_reducible rfl
          refine held_call (i := 4) 20 #[.agg fj.cs] rfl (by kernel_rfl) (by kernel_rfl) (by kernel_rfl) ?_
          refine (eager_any fj wr.drew).mono ?_
          rintro e w20 ⟨rfl, hk20⟩
          rw [HEV.out]
          have HK20 : Hid (Keeps (fun _ => False) wr w20) := Lib.hid (((Keeps.refl (fun _ => False) wr).drew).trans hk20)
          refine ⟨_, rfl, HK20.out, ?_⟩
          clear hS hk20
          have hS : (fun w' : World => Keeps (fun _ => False) wr w') w20 := HK20.out
          refine tH (i := 11) (v := ?_) rfl ?_ hS ?_
          rotate_left
          ·intro wz hz; go_simp; try with_reducible rfl
          refine tH (i := 12) (v := ?_) rfl ?_ hS ?_
          rotate_left
          ·intro wz hz; go_simp; try with_reducible rfl
          refine tH (i := 13) (v := ?_) rfl ?_ hS ?_
          rotate_left
          ·intro wz hz; go_simp; try with_reducible rfl
          refine tH (i := 14) (v := ?_) rfl ?_ hS ?_
          rotate_left
          ·intro wz hz; go_simp; try with_reducible rfl
          refine tH (i := 15) (v := ?_) rfl ?_ hS ?_
          rotate_left
          ·intro wz hz; go_simp; try with_reducible rfl
          refine tH (i := 16) (v := .int .u64 fj.c.t) rfl ?_ hS ?_
          ·intro wz hz; have r0 := at_keep hz hb1 p0; go_simp; try with_reducible rfl
          refine tH (i := 17) (v := .bool true) rfl ?_ hS ?_
          ·intro wz hz; go_simp; try with_reducible rfl
          refine tH (i := 18) (v := .bool true) rfl ?_ hS ?_
          ·intro wz hz; go_simp; try with_reducible rfl
          refine tH (i := 19) (v := ?_) rfl ?_ hS ?_
          rotate_left
          ·intro wz hz; go_simp; try with_reducible rfl
          refine tH (i := 20) (v := ?_) rfl ?_ hS ?_
          rotate_left
          ·intro wz hz; go_simp; try with_reducible rfl
          refine tH (i := 21) (v := ?_) rfl ?_ hS ?_
          rotate_left
          ·intro wz hz; go_simp; try with_reducible rfl
          refine tH (i := 22) (v := ?_) rfl ?_ hS ?_
          rotate_left
          ·intro wz hz; go_simp; try with_reducible rfl
          refine tH (i := 23) (v := ?_) rfl ?_ hS ?_
          rotate_left
          ·intro wz hz; go_simp; try with_reducible rfl
          refine tH (i := 24) (v := .int .u64 fj.c.t) rfl ?_ hS ?_
          ·intro wz hz; have r0 := at_keep hz hb1 p0; go_simp; try with_reducible rfl
          refine tH (i := 25) (v := .bool false) rfl ?_ hS ?_
          ·intro wz hz; go_simp; try with_reducible rfl
          refine tH (i := 26) (v := .bool false) rfl ?_ hS ?_
          ·intro wz hz; go_simp; try with_reducible rfl
          refine tH (i := 27) (v := .bool false) rfl ?_ hS ?_
          ·intro wz hz; go_simp; try with_reducible rfl
          refine wpAnyH_done (by kernel_rfl) ?_ _
          clear hS p0 p1 p2 p3 p4 p5 p6 p7 p8 p9 p10 p11
          refine then_frame (b := { tmps := #[.slice ar nr cr, .slice la ln lc, .int .u16 at_, .int .u8 x, .bool cut, undef, undef, undef, undef, undef, u10, .slice ab nb cb, .int .i64 (i : Int), u13, u14, u15, undef, .slice ay ny cy, .slice (some ⟨b1, o1, none⟩) l7.length c7, .int .i64 E, .slice a8 l8.length c8, .int .i64 E, .pointer (some ⟨w9.heap.size, 0, none⟩), .int .i64 M, .int .i64 R, .pointer (some ⟨w11.heap.size, 0, none⟩), .int .i64 M, .int .i64 R, .int .i64 (j : Int), u29, u30, u31, u32, u33, u34, u35, u36, u37, u38, u39, u40, u41, u42, u43, u44, u45, u46, u47, u48, u49, u50, u51, u52, u53, u54, u55, u56, u57, u58, u59, u60, u61, u62, u63, u64, u65, u66, u67, u68, u69, u70, u71, u72, u73, u74, u75, u76, u77, u78, u79, u80, u81, .slice ar nr cr, .slice ab nb cb, .slice (some ⟨wc.heap.size, 0, none⟩) 2 2, .int .i64 2, .int .i64 (iz : Int), .bool true, .pointer (some ⟨wc.heap.size, iz, none⟩), .slice ay ny cy, .tuple #[.slice (some ⟨b1, o1, none⟩) l7.length c7, .int .i64 E], .slice ay ny cy, .tuple #[.slice (some ⟨b1, o1, none⟩) l7.length c7, .int .i64 E], .slice (some ⟨b1, o1, none⟩) l7.length c7, .int .i64 E, .tuple #[.slice a8 l8.length c8, .int .i64 E], .slice ay ny cy, .tuple #[.slice a8 l8.length c8, .int .i64 E], .slice a8 l8.length c8, .int .i64 E, .tuple #[VF, .int .i64 M, .int .i64 R], .slice ay ny cy, .tuple #[VF, .int .i64 M, .int .i64 R], VF, .int .i64 M, .int .i64 R, .tuple #[VG, .int .i64 M, .int .i64 R], .slice ay ny cy, .tuple #[VG, .int .i64 M, .int .i64 R], VG, .int .i64 M, .int .i64 R, .int .i64 E, .int .i64 E, .bool false, .bool false, .slice (some ⟨b1, o1, none⟩) l7.length c7, .slice a8 l8.length c8, .bool true, .bool false, .bool false, .bool false, VF, VG, .bool true, .bool false, .bool false, .bool false, .int .i64 M, .int .i64 M, .bool false, .bool false, .bool false, .int .i64 R, .int .i64 R, .bool false, .bool false, .int .i64 (j : Int), .slice (some ⟨b1, o1, none⟩) l7.length c7, .int .i64 (l7.length : Int), .bool true, u141, u142, .slice (some ⟨b1, o1, none⟩) l7.length c7, .int .i64 (j : Int), .pointer (some ⟨b1, o1 + j * 12, none⟩), .agg fj.cs, .bool false, .slice (some ⟨b1, o1, none⟩) l7.length c7, .int .i64 (j : Int), .pointer (some ⟨b1, o1 + j * 12, none⟩), .pointer (some ⟨b1, o1 + j * 12, none⟩), .int .u64 fj.c.t, .bool true, .bool true, .slice (some ⟨b1, o1, none⟩) l7.length c7, .int .i64 (j : Int), .pointer (some ⟨b1, o1 + j * 12, none⟩), .pointer (some ⟨b1, o1 + j * 12, none⟩), .int .u64 fj.c.t, .bool true, .bool true, .bool true, .slice (some ⟨b1, o1, none⟩) l7.length c7, .int .i64 (j : Int), .pointer (some ⟨b1, o1 + j * 12, none⟩), .pointer (some ⟨b1, o1 + j * 12, none⟩), .int .u64 fj.c.t, .bool false, .bool false, .bool false, u171], defers := [] }) (by kernel_rfl) ?_
          generalize fj.cs = vf
          go_wp2_with fail
          go_roundg g2
          case measure => omega
          case rel => exact ⟨j + 1, by go_num, by have := HKJ.out; omega, HKX.out.trans HK20.out⟩
         ·skip
          have q0 : (fj.c.t != 0) = true := by simp; omega
          have q2 : (fj.c.t != 2) = true := by simp; omega
          have q28 : (fj.c.t != 28) = true := by simp; omega
          have HEV : Hid ((fj.c.t != 0 && (fj.c.t != 2 && fj.c.t != 28)) = true) := Lib.hid (by rw [q0, q2, q28]; rfl)
          refine wp_region_held (S := fun w' : World => Keeps (fun _ => False) wr w') (by kernel_rfl) ?_
          change wpAnyH _ _ _ _ _ _ _ _ (World.drew _)
          have hS : (fun w' : World => Keeps (fun _ => False) wr w') wr.drew := (Keeps.refl _ _).drew
          refine tH (i := 0) (v := ?_) rfl ?_ hS ?_
          rotate_left
          ·intro wz hz; go_simp; try with_reducible rfl
          refine tH (i := 1) (v := ?_) rfl ?_ hS ?_
          rotate_left
          ·intro wz hz; go_simp; try with_reducible rfl
          refine tH (i := 2) (v := ?_) rfl ?_ hS ?_
          rotate_left
          ·intro wz hz; go_simp; try with_reducible rfl
          refine tH (i := 3) (v := .agg fj.cs) rfl ?_ hS ?_
          ·intro wz hz; have r0 := at_keep hz hb1 p0; have r1 := at_keep hz hb1 p1; have r2 := at_keep hz hb1 p2; have r3 := at_keep hz hb1 p3; have r4 := at_keep hz hb1 p4; have r5 := at_keep hz hb1 p5; have r6 := at_keep hz hb1 p6; have r7 := at_keep hz hb1 p7; have r8 := at_keep hz hb1 p8; have r9 := at_keep hz hb1 p9; have r10 := at_keep hz hb1 p10; have r11 := at_keep hz hb1 p11; unfold Qf.cs; go_simp; try with_reducible rfl
          refine tH (i := 5) (v := ?_) rfl ?_ hS ?_
          rotate_left
          ·intro wz hz; go_simp; try with_reducible rfl
          refine tH (i := 6) (v := ?_) rfl ?_ hS ?_
          rotate_left
          ·intro wz hz; go_simp; try with_reducible rfl
          refine tH (i := 7) (v := ?_) rfl ?_ hS ?_
          rotate_left
          ·intro wz hz; go_simp; try with_reducible rfl
          refine tH (i := 8) (v := ?_) rfl ?_ hS ?_
          rotate_left
          ·intro wz hz; go_simp; try with_reducible rfl
          refine tH (i := 9) (v := .int .u64 fj.c.t) rfl ?_ hS ?_
          ·intro wz hz; have r0 := at_keep hz hb1 p0; go_simp; try with_reducible rfl
          refine tH (i := 10) (v := .bool true) rfl ?_ hS ?_
          ·intro wz hz; go_simp; try with_reducible rfl
          refine held_call (i := 4) 20 #[.agg fj.cs] rfl (by kernel_rfl) (by kernel_rfl) (by kernel_rfl) ?_
          refine (eager_any fj wr.drew).mono ?_
          rintro e w20 ⟨rfl, hk20⟩
          rw [HEV.out]
          have HK20 : Hid (Keeps (fun _ => False) wr w20) := Lib.hid (((Keeps.refl (fun _ => False) wr).drew).trans hk20)
          refine ⟨_, rfl, HK20.out, ?_⟩
          clear hS hk20
          have hS : (fun w' : World => Keeps (fun _ => False) wr w') w20 := HK20.out
          refine tH (i := 11) (v := ?_) rfl ?_ hS ?_
          rotate_left
          ·intro wz hz; go_simp; try with_reducible rfl
          refine tH (i := 12) (v := ?_) rfl ?_ hS ?_
          rotate_left
          ·intro wz hz; go_simp; try with_reducible rfl
          refine tH (i := 13) (v := ?_) rfl ?_ hS ?_
          rotate_left
          ·intro wz hz; go_simp; try with_reducible rfl
          refine tH (i := 14) (v := ?_) rfl ?_ hS ?_
          rotate_left
          ·intro wz hz; go_simp; try with_reducible rfl
          refine tH (i := 15) (v := ?_) rfl ?_ hS ?_
          rotate_left
          ·intro wz hz; go_simp; try with_reducible rfl
          refine tH (i := 16) (v := .int .u64 fj.c.t) rfl ?_ hS ?_
          ·intro wz hz; have r0 := at_keep hz hb1 p0; go_simp; try with_reducible rfl
          refine tH (i := 17) (v := .bool true) rfl ?_ hS ?_
          ·intro wz hz; go_simp; try with_reducible rfl
          refine tH (i := 18) (v := .bool true) rfl ?_ hS ?_
          ·intro wz hz; go_simp; try with_reducible rfl
          refine tH (i := 19) (v := ?_) rfl ?_ hS ?_
          rotate_left
          ·intro wz hz; go_simp; try with_reducible rfl
          refine tH (i := 20) (v := ?_) rfl ?_ hS ?_
          rotate_left
          ·intro wz hz; go_simp; try with_reducible rfl
          refine tH (i := 21) (v := ?_) rfl ?_ hS ?_
          rotate_left
          ·intro wz hz; go_simp; try with_reducible rfl
          refine tH (i := 22) (v := ?_) rfl ?_ hS ?_
          rotate_left
          ·intro wz hz; go_simp; try with_reducible rfl
          refine tH (i := 23) (v := ?_) rfl ?_ hS ?_
          rotate_left
          ·intro wz hz; go_simp; try with_reducible rfl
          refine tH (i := 24) (v := .int .u64 fj.c.t) rfl ?_ hS ?_
          ·intro wz hz; have r0 := at_keep hz hb1 p0; go_simp; try with_reducible rfl
          refine tH (i := 25) (v := .bool true) rfl ?_ hS ?_
          ·intro wz hz; go_simp; try with_reducible rfl
          refine tH (i := 26) (v := .bool true) rfl ?_ hS ?_
          ·intro wz hz; go_simp; try with_reducible rfl
          refine tH (i := 27) (v := .bool false) rfl ?_ hS ?_
          ·intro wz hz; go_simp; try with_reducible rfl
          refine wpAnyH_done (by kernel_rfl) ?_ _
          clear hS p0 p1 p2 p3 p4 p5 p6 p7 p8 p9 p10 p11
          refine then_frame (b := { tmps := #[.slice ar nr cr, .slice la ln lc, .int .u16 at_, .int .u8 x, .bool cut, undef, undef, undef, undef, undef, u10, .slice ab nb cb, .int .i64 (i : Int), u13, u14, u15, undef, .slice ay ny cy, .slice (some ⟨b1, o1, none⟩) l7.length c7, .int .i64 E, .slice a8 l8.length c8, .int .i64 E, .pointer (some ⟨w9.heap.size, 0, none⟩), .int .i64 M, .int .i64 R, .pointer (some ⟨w11.heap.size, 0, none⟩), .int .i64 M, .int .i64 R, .int .i64 (j : Int), u29, u30, u31, u32, u33, u34, u35, u36, u37, u38, u39, u40, u41, u42, u43, u44, u45, u46, u47, u48, u49, u50, u51, u52, u53, u54, u55, u56, u57, u58, u59, u60, u61, u62, u63, u64, u65, u66, u67, u68, u69, u70, u71, u72, u73, u74, u75, u76, u77, u78, u79, u80, u81, .slice ar nr cr, .slice ab nb cb, .slice (some ⟨wc.heap.size, 0, none⟩) 2 2, .int .i64 2, .int .i64 (iz : Int), .bool true, .pointer (some ⟨wc.heap.size, iz, none⟩), .slice ay ny cy, .tuple #[.slice (some ⟨b1, o1, none⟩) l7.length c7, .int .i64 E], .slice ay ny cy, .tuple #[.slice (some ⟨b1, o1, none⟩) l7.length c7, .int .i64 E], .slice (some ⟨b1, o1, none⟩) l7.length c7, .int .i64 E, .tuple #[.slice a8 l8.length c8, .int .i64 E], .slice ay ny cy, .tuple #[.slice a8 l8.length c8, .int .i64 E], .slice a8 l8.length c8, .int .i64 E, .tuple #[VF, .int .i64 M, .int .i64 R], .slice ay ny cy, .tuple #[VF, .int .i64 M, .int .i64 R], VF, .int .i64 M, .int .i64 R, .tuple #[VG, .int .i64 M, .int .i64 R], .slice ay ny cy, .tuple #[VG, .int .i64 M, .int .i64 R], VG, .int .i64 M, .int .i64 R, .int .i64 E, .int .i64 E, .bool false, .bool false, .slice (some ⟨b1, o1, none⟩) l7.length c7, .slice a8 l8.length c8, .bool true, .bool false, .bool false, .bool false, VF, VG, .bool true, .bool false, .bool false, .bool false, .int .i64 M, .int .i64 M, .bool false, .bool false, .bool false, .int .i64 R, .int .i64 R, .bool false, .bool false, .int .i64 (j : Int), .slice (some ⟨b1, o1, none⟩) l7.length c7, .int .i64 (l7.length : Int), .bool true, u141, u142, .slice (some ⟨b1, o1, none⟩) l7.length c7, .int .i64 (j : Int), .pointer (some ⟨b1, o1 + j * 12, none⟩), .agg fj.cs, .bool true, .slice (some ⟨b1, o1, none⟩) l7.length c7, .int .i64 (j : Int), .pointer (some ⟨b1, o1 + j * 12, none⟩), .pointer (some ⟨b1, o1 + j * 12, none⟩), .int .u64 fj.c.t, .bool true, .bool true, .slice (some ⟨b1, o1, none⟩) l7.length c7, .int .i64 (j : Int), .pointer (some ⟨b1, o1 + j * 12, none⟩), .pointer (some ⟨b1, o1 + j * 12, none⟩), .int .u64 fj.c.t, .bool true, .bool true, .bool true, .slice (some ⟨b1, o1, none⟩) l7.length c7, .int .i64 (j : Int), .pointer (some ⟨b1, o1 + j * 12, none⟩), .pointer (some ⟨b1, o1 + j * 12, none⟩), .int .u64 fj.c.t, .bool true, .bool true, .bool false, u171], defers := [] }) (by kernel_rfl) ?_
          generalize fj.cs = vf
          go_wp2_with fail
          go_roundg g2
          case measure => omega
          case rel => exact ⟨j + 1, by go_num, by have := HKJ.out; omega, HKX.out.trans HK20.out⟩
        ·have hlt3 : decide ((j : Int) < (l7.length : Int)) = false := by simp; omega
         have hlt4 : decide (j < l7.length) = false := by simp; omega
         have HKZ : Hid (Below w5.heap.size w5 wr) := Lib.hid (HKW.out.trans ((Keeps.below HK14.out HKX.out HB0.out (fun _ h => False.elim h)).mono HWR.out))
         go_wp2_with fail
         go_roundg gg
         case measure => omega
         case rel => exact ⟨iz + 1, by have := HI.out; omega, by go_num, HKZ.out⟩
      ·have hd1 : decide ((iz : Int) < 2) = false := by simp; omega
       have hd2 : decide (iz < 2) = false := by simp; omega
       go_wp2_with fail
       go_returns
       exact ⟨rfl, HKR.out⟩


end Go.Proofs.Ytgfkgmmigbpciaa
