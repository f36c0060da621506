/- The walk of QframeWrites. -/
import Derived.Test.YtgfkgmmigbpciaaQrI
import Derived.Test.YtgfkgmmigbpciaaQfT
namespace Go.Proofs.Ytgfkgmmigbpciaa
open Go.RowKit Go.Deep

/-- The block of a slice that came in is there. -/
theorem Arg.ltQ {P : Program} {w : World} {t e : TypeId} {a : Option Addr} {n cap : Nat} (h : Arg P w t (.slice a n cap)) (ht : P.underlying t = some (.slice e)) : ∀ b, a.map (·.block) = some b → b < w.heap.size := by
  intro b hb
  obtain ⟨⟨base, hv⟩, _⟩ := h
  cases a with
  | none => cases hb
  | some a =>
    cases hb
    simp only [Value.okWide, ht, Cell.okWide, Cell.ok, World.has] at hv
    obtain ⟨_, _, _, _, row, cells, hs, _⟩ := hv
    unfold World.shape? at hs
    split at hs
    · rename_i hh; exact lt_of_block hh
    · cases hs
theorem By.tightQ {w : World} {a : Option Addr} {n cap : Nat} {xs : List UInt8} (h : By w a n cap xs) : By w a n n xs := ⟨h.1, Nat.le_refl _, Nat.le_trans h.2.le h.2.max, h.2.len, h.2.at_⟩
theorem Qv.sub1 {w : World} {b off n cap : Nat} {l : List Qf} (h : Qv w (some ⟨b, off, none⟩) n cap l) {i : Nat} (hi : i < l.length) : Qv w (some ⟨b, off + i * 12, none⟩) 1 (cap - i) [l[i]] := by
  have h1 := h.1
  have h2 := h.2.1
  have h3 := h.2.2.1
  refine ⟨rfl, by omega, by omega, fun j hj => ?_⟩
  obtain rfl : j = 0 := by simpa using hj
  obtain ⟨⟨b2, off2, e, hb, hc⟩, hq⟩ := h.2.2.2 i hi
  cases e
  exact ⟨⟨b, off + i * 12, rfl, hb, fun k v hv => by rw [Nat.zero_mul, Nat.add_zero]; exact hc k v hv⟩, hq⟩
theorem FramesP.below {a : Option Addr} {r : Option (List UInt8)} {w : World} {e : Ending} {w' : World} (h : FramesP w.heap.size a r w e w') : Below w.heap.size w w' := Keeps.mine_below (Below.refl _ w) h.1 (Nat.le_refl _) (Nat.le_refl _)

set_option maxRecDepth 100000 in
set_option maxHeartbeats 6400000 in
theorem walkQframeWrites (w : World) (v0 : Value) (h0 : Arg Try.prog w 22 v0) (v1 : Value) (h1 : Arg Try.prog w 23 v1) :
    Calls Try.prog 3 #[v0, v1] w fun e w' => e = .returned (.bool true) ∧ Below w.heap.size w w' := by
  obtain ⟨a, n, cap, xs, rfl, hb, hbb⟩ := h0.bytes
  have HLT := Lib.hid (Arg.ltQ h0 Try.underlying22)
  obtain ⟨la, ln, lc, l, rfl, hv⟩ := h1.qframes
  have HBB := Lib.hid hbb
  have HV := Lib.hid hv
  have HN := Lib.hid hb.1
  have hcap := hb.2.le
  have hmax := hb.2.max
  unfold maxLen at hmax
  clear hb hbb hv h0 h1
  go_enter Try.func3, Try.ntmps3
  go_wp2_with fail
  refine (known_any w).mono ?_
  rintro e w1 ⟨rfl, hk1⟩
  have HK1 := Lib.hid hk1
  clear hk1
  by_cases hn : n ≤ 100
  rotate_left
  · have hd : decide ((100 : Int) < (n : Int)) = true := by simp; omega
    have hd2 : decide (100 < n) = true := by simp; omega
    clear hn
    go_wp2_with fail
    go_returns
    exact ⟨rfl, HK1.out⟩
  have hd : decide ((100 : Int) < (n : Int)) = false := by simp; omega
  have hd2 : decide (100 < n) = false := by simp; omega
  go_wp2_with fail
  refine (light_any la ln lc l w1 (HV.out w1 HK1.out)).mono ?_
  rintro e w' ⟨rfl, rfl⟩
  cases hlt : lightB l with
  | false =>
    have HL := Lib.hid hlt
    clear hlt
    go_wp2_with fail
    go_returns
    exact ⟨rfl, HK1.out⟩
  | true =>
    obtain ⟨hl10, hll⟩ := lightB_bd hlt
    have HSM : Hid (∀ f ∈ l, f.c.Small) := Lib.hid (fun f hf => light_small (hll f hf))
    have HLN : Hid (ln = l.length) := Lib.hid (HV.out w1 HK1.out).1
    have hlc : ln ≤ lc := (HV.out w1 HK1.out).2.1
    have hln10 : ln ≤ 10 := by have := HLN.out; omega
    clear hlt hll hd hd2
    go_wp2_with fail
    go_loopg [5] ln (fun k vi wr => ∃ i : Nat, vi = .int .i64 i ∧ k + i = ln ∧ Below w.heap.size w wr)
    case atStart => exact ⟨0, rfl, by omega, HK1.out⟩
    case round =>
      obtain ⟨i, rfl, hki, hkw⟩ := hrel
      have HKI := Lib.hid hki
      have HKW := Lib.hid hkw
      clear hki hkw
      by_cases hin : i < ln
      · have hix : i < l.length := by have := HLN.out; omega
        obtain ⟨⟨b, off, rfl, hbl, hcell⟩, hq⟩ := (HV.out wr HKW.out).2.2.2 i hix
        have HQI : Hid (∀ w', Below w.heap.size w w' → Qin w' l[i]) := Lib.hid (fun w' h => ((HV.out w' h).2.2.2 i hix).2)
        have HSI := Lib.hid (HSM.out _ (List.getElem_mem hix))
        have HSUB : Hid (∀ w', Below w.heap.size w w' → Qv w' (some ⟨b, off + i * 12, none⟩) 1 (lc - i) [l[i]]) := Lib.hid (fun w' h => (HV.out w' h).sub1 hix)
        clear hq
        generalize l[i] = f at *
        have r0 : wr.cell? ⟨b, off + i * 12 + 0, none⟩ = some (.int .u64 f.c.t) := hcell 0 _ rfl
        have r1 : wr.cell? ⟨b, off + i * 12 + 1, none⟩ = some (.int .u64 f.c.id) := hcell 1 _ rfl
        have r2 : wr.cell? ⟨b, off + i * 12 + 2, none⟩ = some (.int .u64 f.c.off) := hcell 2 _ rfl
        have r3 : wr.cell? ⟨b, off + i * 12 + 3, none⟩ = some (.bool f.c.fin) := hcell 3 _ rfl
        have r4 : wr.cell? ⟨b, off + i * 12 + 4, none⟩ = some (.int .u64 f.c.mx) := hcell 4 _ rfl
        have r5 : wr.cell? ⟨b, off + i * 12 + 5, none⟩ = some (.int .u64 f.c.code) := hcell 5 _ rfl
        have r6 : wr.cell? ⟨b, off + i * 12 + 6, none⟩ = some (.int .u64 f.c.delay) := hcell 6 _ rfl
        have r7 : wr.cell? ⟨b, off + i * 12 + 7, none⟩ = some (.slice f.ra f.rn f.rc) := hcell 7 _ rfl
        have r8 : wr.cell? ⟨b, off + i * 12 + 8, none⟩ = some (.slice f.a f.n f.cap) := hcell 8 _ rfl
        have r9 : wr.cell? ⟨b, off + i * 12 + 9, none⟩ = some (.bool f.c.uni) := hcell 9 _ rfl
        have r10 : wr.cell? ⟨b, off + i * 12 + 10, none⟩ = some (.bool f.c.app) := hcell 10 _ rfl
        have r11 : wr.cell? ⟨b, off + i * 12 + 11, none⟩ = some (.int .i64 f.c.N) := hcell 11 _ rfl
        simp only [Nat.add_zero] at r0
        clear hcell
        have hz0 : (0 : Int) ≤ (i : Int) := by omega
        have hz1 : (i : Int) < (ln : Int) := by omega
        obtain ⟨g, rfl⟩ : ∃ g, gk = g + 1 := ⟨gk - 1, by have := HKI.out; omega⟩
        go_wp2_with fail
        clear r0 r1 r2 r3 r4 r5 r6 r7 r8 r9 r10 r11
        refine calls_named ?_
        intro w2 hw2
        have HK2 : Hid (Below w.heap.size w w2) := Lib.hid (by rw [← hw2]; exact HKW.out.alloc HKW.out.size _)
        have HB2 : Hid (Blk w2 wr.heap.size f.cs 32) := Lib.hid (by rw [← hw2]; exact Blk.new _ _ _)
        have HSZ2 : Hid (w.heap.size ≤ wr.heap.size) := Lib.hid HKW.out.size
        clear hw2
        refine (qwrite_any a n cap xs (some ⟨wr.heap.size, 0, none⟩) 1 1 [f] w2 (HBB.out w2 HK2.out) (fun w' h => by
          have hk := Below.keeps h
          refine Qv.blk (hk.blk HB2.out (by have := HB2.out.lt; omega)) [f] (by simp [qfs]) (by simp) (fun g hg => ?_)
          obtain rfl : g = f := by simpa using hg
          exact HQI.out w' (HK2.out.trans (h.mono HK2.out.size))) (fun g hg => by
          obtain rfl : g = f := by simpa using hg
          exact HSI.out) (by omega) (by simp)).mono ?_
        rintro e w3 ⟨hk3, hr3⟩
        have HK3 : Hid (Below w.heap.size w w3) := Lib.hid (HK2.out.trans (hk3.mono HK2.out.size))
        have hSb : Sb w3.heap.size w3 a n n xs := ⟨(HBB.out w3 HK3.out).tightQ.full, fun b hb => Nat.lt_of_lt_of_le (HLT.out b hb) HK3.out.size⟩
        have hSb2 : Sb w3.drew.heap.size w3.drew a n n xs := ⟨(HBB.out w3.drew HK3.out.drew).tightQ.full, fun b hb => Nat.lt_of_lt_of_le (HLT.out b hb) HK3.out.size⟩
        have HSB := Lib.hid hSb2
        clear hSb hSb2
        cases hen : encsO xs [f] with
        | none =>
          rw [hen] at hr3
          have hr' : e = .returned (.tuple #[.slice none 0 0, .int .i64 30]) := hr3
          subst hr'
          have HEN := Lib.hid hen
          clear hr3 hen hk3
          go_upto_region 9 with fail
          refine wp_region_held (S := fun _ => True) (by kernel_rfl) ?_
          change wpAnyH _ _ _ _ _ _ _ _ (World.drew _)
          have hS : (fun _ : World => True) w3.drew := trivial
          have hi1 : ((i : Int) + 1) ≤ (lc : Int) := by omega
          have hi2 : (i : Int) ≤ (i : Int) + 1 := by omega
          have hi3 : (0 : Int) ≤ (i : Int) + 1 := by omega
          have hi4 : ((i : Int) + 1).toNat = i + 1 := by omega
          have hi5 : ¬ lc = i := by omega
          have hi6 : i + 1 - i = 1 := by omega
          have hi7 : i ≤ i + 1 := by omega
          have hwi : IntKind.i64.wrap ((i : Int) + 1) = (i : Int) + 1 := by rw [IntKind.wrap_i64]; omega
          have hnI : (n : Int) ≤ (cap : Int) := by omega
          refine wpAnyH_take (i := 0) (v := ?_) rfl (by kernel_rfl) (by kernel_rfl) (by kernel_rfl) (fun _ _ _ h => h) (Or.inl ⟨by kernel_rfl, ?_⟩) hS ?_
          rotate_left
          · intro wz _; go_simp; try with_reducible rfl
          refine wpAnyH_take (i := 1) (v := ?_) rfl (by kernel_rfl) (by kernel_rfl) (by kernel_rfl) (fun _ _ _ h => h) (Or.inl ⟨by kernel_rfl, ?_⟩) hS ?_
          rotate_left
          · intro wz _; go_simp; try with_reducible rfl
          refine wpAnyH_take (i := 2) (v := ?_) rfl (by kernel_rfl) (by kernel_rfl) (by kernel_rfl) (fun _ _ _ h => h) (Or.inl ⟨by kernel_rfl, ?_⟩) hS ?_
          rotate_left
          · intro wz _; go_simp; try with_reducible rfl
          refine wpAnyH_take (i := 3) (v := ?_) rfl (by kernel_rfl) (by kernel_rfl) (by kernel_rfl) (fun _ _ _ h => h) (Or.inl ⟨by kernel_rfl, ?_⟩) hS ?_
          rotate_left
          · intro wz _; go_simp; try with_reducible rfl
          refine wpAnyH_take (i := 4) (v := ?_) rfl (by kernel_rfl) (by kernel_rfl) (by kernel_rfl) (fun _ _ _ h => h) (Or.inl ⟨by kernel_rfl, ?_⟩) hS ?_
          rotate_left
          · intro wz _; go_simp; try with_reducible rfl
          refine wpAnyH_take (i := 5) (v := .slice a n n) rfl (by kernel_rfl) (by kernel_rfl) (by kernel_rfl) (fun _ _ _ h => h) (Or.inl ⟨by kernel_rfl, ?_⟩) hS ?_
          · intro wz _; go_simp; try with_reducible rfl
          refine wpAnyH_take (i := 6) (v := ?_) rfl (by kernel_rfl) (by kernel_rfl) (by kernel_rfl) (fun _ _ _ h => h) (Or.inl ⟨by kernel_rfl, ?_⟩) hS ?_
          rotate_left
          · intro wz _; go_simp; try with_reducible rfl
          refine wpAnyH_take (i := 7) (v := ?_) rfl (by kernel_rfl) (by kernel_rfl) (by kernel_rfl) (fun _ _ _ h => h) (Or.inl ⟨by kernel_rfl, ?_⟩) hS ?_
          rotate_left
          · intro wz _; go_simp; try with_reducible rfl
          refine wpAnyH_take (i := 8) (v := ?_) rfl (by kernel_rfl) (by kernel_rfl) (by kernel_rfl) (fun _ _ _ h => h) (Or.inl ⟨by kernel_rfl, ?_⟩) hS ?_
          rotate_left
          · intro wz _; go_simp; try with_reducible rfl
          refine wpAnyH_take (i := 9) (v := .int .i64 ((i : Int) + 1)) rfl (by kernel_rfl) (by kernel_rfl) (by kernel_rfl) (fun _ _ _ h => h) (Or.inl ⟨by kernel_rfl, ?_⟩) hS ?_
          · intro wz _; go_simp; try rw [hwi]; try with_reducible rfl
          refine wpAnyH_take (i := 10) (v := .slice (some ⟨b, off + i * 12, none⟩) 1 (lc - i)) rfl (by kernel_rfl) (by kernel_rfl) (by kernel_rfl) (fun _ _ _ h => h) (Or.inl ⟨by kernel_rfl, ?_⟩) hS ?_
          · intro wz _; go_simp; try with_reducible rfl
          refine held_call (i := 11) 12 #[.slice a n n, .slice (some ⟨b, off + i * 12, none⟩) 1 (lc - i)] rfl (by kernel_rfl) (by kernel_rfl) (by kernel_rfl) ?_
          refine (rframes_any w3.drew.heap.size a n n xs (some ⟨b, off + i * 12, none⟩) 1 (lc - i) [f] w3.drew HSB.out (fun w' h => HSUB.out w' (HK3.out.drew.trans (h.mono HK3.out.size))) (fun g hg => by
            obtain rfl : g = f := by simpa using hg
            exact HSI.out) (by omega) (by simp) (Nat.le_refl _)).mono ?_
          intro e w4 h4
          have HK4 : Hid (Below w.heap.size w w4) := Lib.hid (HK3.out.drew.trans (h4.below.mono HK3.out.size))
          obtain ⟨hk4, hr4⟩ := h4
          rw [HEN.out] at hr4
          have hr' : e = .returned (.tuple #[.slice none 0 0, .int .i64 30]) := hr4
          subst hr'
          clear hk4 hr4
          refine ⟨_, rfl, trivial, ?_⟩
          clear hS
          have hS : (fun _ : World => True) w4 := trivial
          refine wpAnyH_take (i := 12) (v := ?_) rfl (by kernel_rfl) (by kernel_rfl) (by kernel_rfl) (fun _ _ _ h => h) (Or.inl ⟨by kernel_rfl, ?_⟩) hS ?_
          rotate_left
          · intro wz _; go_simp; try with_reducible rfl
          refine wpAnyH_take (i := 13) (v := ?_) rfl (by kernel_rfl) (by kernel_rfl) (by kernel_rfl) (fun _ _ _ h => h) (Or.inl ⟨by kernel_rfl, ?_⟩) hS ?_
          rotate_left
          · intro wz _; go_simp; try with_reducible rfl
          refine wpAnyH_take (i := 14) (v := ?_) rfl (by kernel_rfl) (by kernel_rfl) (by kernel_rfl) (fun _ _ _ h => h) (Or.inl ⟨by kernel_rfl, ?_⟩) hS ?_
          rotate_left
          · intro wz _; go_simp; try with_reducible rfl
          refine wpAnyH_take (i := 15) (v := ?_) rfl (by kernel_rfl) (by kernel_rfl) (by kernel_rfl) (fun _ _ _ h => h) (Or.inl ⟨by kernel_rfl, ?_⟩) hS ?_
          rotate_left
          · intro wz _; go_simp; try with_reducible rfl
          refine wpAnyH_take (i := 16) (v := ?_) rfl (by kernel_rfl) (by kernel_rfl) (by kernel_rfl) (fun _ _ _ h => h) (Or.inl ⟨by kernel_rfl, ?_⟩) hS ?_
          rotate_left
          · intro wz _; go_simp; try with_reducible rfl
          refine wpAnyH_done (by kernel_rfl) ?_ _
          clear hS hi1 hi2 hi3 hi4 hi5 hi6 hi7 hwi hnI
          refine thenX_named ?_
          intro w5 hw5
          subst hw5
          go_wp2_with fail
          refine By.upon (By.nil _) ?_
          go_wp2_with fail
          refine By.upon (By.nil _) ?_
          go_wp2_with fail
          go_roundg g
          case measure => omega
          case rel => exact ⟨i + 1, by go_num, by have := HKI.out; omega, HK4.out⟩
        | some zs =>
          rw [hen] at hr3
          obtain ⟨a3, n3, c3, rfl, ho3⟩ := hr3
          have HEN := Lib.hid hen
          have HO3 := Lib.hid ho3
          clear ho3 hen hk3
          go_upto_region 9 with fail
          refine wp_region_held (S := fun _ => True) (by kernel_rfl) ?_
          change wpAnyH _ _ _ _ _ _ _ _ (World.drew _)
          have hS : (fun _ : World => True) w3.drew := trivial
          have hi1 : ((i : Int) + 1) ≤ (lc : Int) := by omega
          have hi2 : (i : Int) ≤ (i : Int) + 1 := by omega
          have hi3 : (0 : Int) ≤ (i : Int) + 1 := by omega
          have hi4 : ((i : Int) + 1).toNat = i + 1 := by omega
          have hi5 : ¬ lc = i := by omega
          have hi6 : i + 1 - i = 1 := by omega
          have hi7 : i ≤ i + 1 := by omega
          have hwi : IntKind.i64.wrap ((i : Int) + 1) = (i : Int) + 1 := by rw [IntKind.wrap_i64]; omega
          have hnI : (n : Int) ≤ (cap : Int) := by omega
          refine wpAnyH_take (i := 0) (v := ?_) rfl (by kernel_rfl) (by kernel_rfl) (by kernel_rfl) (fun _ _ _ h => h) (Or.inl ⟨by kernel_rfl, ?_⟩) hS ?_
          rotate_left
          · intro wz _; go_simp; try with_reducible rfl
          refine wpAnyH_take (i := 1) (v := ?_) rfl (by kernel_rfl) (by kernel_rfl) (by kernel_rfl) (fun _ _ _ h => h) (Or.inl ⟨by kernel_rfl, ?_⟩) hS ?_
          rotate_left
          · intro wz _; go_simp; try with_reducible rfl
          refine wpAnyH_take (i := 2) (v := ?_) rfl (by kernel_rfl) (by kernel_rfl) (by kernel_rfl) (fun _ _ _ h => h) (Or.inl ⟨by kernel_rfl, ?_⟩) hS ?_
          rotate_left
          · intro wz _; go_simp; try with_reducible rfl
          refine wpAnyH_take (i := 3) (v := ?_) rfl (by kernel_rfl) (by kernel_rfl) (by kernel_rfl) (fun _ _ _ h => h) (Or.inl ⟨by kernel_rfl, ?_⟩) hS ?_
          rotate_left
          · intro wz _; go_simp; try with_reducible rfl
          refine wpAnyH_take (i := 4) (v := ?_) rfl (by kernel_rfl) (by kernel_rfl) (by kernel_rfl) (fun _ _ _ h => h) (Or.inl ⟨by kernel_rfl, ?_⟩) hS ?_
          rotate_left
          · intro wz _; go_simp; try with_reducible rfl
          refine wpAnyH_take (i := 5) (v := .slice a n n) rfl (by kernel_rfl) (by kernel_rfl) (by kernel_rfl) (fun _ _ _ h => h) (Or.inl ⟨by kernel_rfl, ?_⟩) hS ?_
          · intro wz _; go_simp; try with_reducible rfl
          refine wpAnyH_take (i := 6) (v := ?_) rfl (by kernel_rfl) (by kernel_rfl) (by kernel_rfl) (fun _ _ _ h => h) (Or.inl ⟨by kernel_rfl, ?_⟩) hS ?_
          rotate_left
          · intro wz _; go_simp; try with_reducible rfl
          refine wpAnyH_take (i := 7) (v := ?_) rfl (by kernel_rfl) (by kernel_rfl) (by kernel_rfl) (fun _ _ _ h => h) (Or.inl ⟨by kernel_rfl, ?_⟩) hS ?_
          rotate_left
          · intro wz _; go_simp; try with_reducible rfl
          refine wpAnyH_take (i := 8) (v := ?_) rfl (by kernel_rfl) (by kernel_rfl) (by kernel_rfl) (fun _ _ _ h => h) (Or.inl ⟨by kernel_rfl, ?_⟩) hS ?_
          rotate_left
          · intro wz _; go_simp; try with_reducible rfl
          refine wpAnyH_take (i := 9) (v := .int .i64 ((i : Int) + 1)) rfl (by kernel_rfl) (by kernel_rfl) (by kernel_rfl) (fun _ _ _ h => h) (Or.inl ⟨by kernel_rfl, ?_⟩) hS ?_
          · intro wz _; go_simp; try rw [hwi]; try with_reducible rfl
          refine wpAnyH_take (i := 10) (v := .slice (some ⟨b, off + i * 12, none⟩) 1 (lc - i)) rfl (by kernel_rfl) (by kernel_rfl) (by kernel_rfl) (fun _ _ _ h => h) (Or.inl ⟨by kernel_rfl, ?_⟩) hS ?_
          · intro wz _; go_simp; try with_reducible rfl
          refine held_call (i := 11) 12 #[.slice a n n, .slice (some ⟨b, off + i * 12, none⟩) 1 (lc - i)] rfl (by kernel_rfl) (by kernel_rfl) (by kernel_rfl) ?_
          refine (rframes_any w3.drew.heap.size a n n xs (some ⟨b, off + i * 12, none⟩) 1 (lc - i) [f] w3.drew HSB.out (fun w' h => HSUB.out w' (HK3.out.drew.trans (h.mono HK3.out.size))) (fun g hg => by
            obtain rfl : g = f := by simpa using hg
            exact HSI.out) (by omega) (by simp) (Nat.le_refl _)).mono ?_
          intro e w4 h4
          have HK4 : Hid (Below w.heap.size w w4) := Lib.hid (HK3.out.drew.trans (h4.below.mono HK3.out.size))
          obtain ⟨hk4, hr4⟩ := h4
          rw [HEN.out] at hr4
          obtain ⟨a4, n4, c4, rfl, hs4, _⟩ := hr4
          have HS4 := Lib.hid hs4
          have HO4 : Hid (By w4 a3 n3 c3 zs) := Lib.hid ((By.drewR HO3.out.by).keep hk4 (fun b hb h => by have h1 := (HO3.out.ge b hb).2; have h2 : w3.heap.size ≤ b := h.1; omega))
          clear hk4 hs4
          refine ⟨_, rfl, trivial, ?_⟩
          clear hS
          have hS : (fun _ : World => True) w4 := trivial
          refine wpAnyH_take (i := 12) (v := ?_) rfl (by kernel_rfl) (by kernel_rfl) (by kernel_rfl) (fun _ _ _ h => h) (Or.inl ⟨by kernel_rfl, ?_⟩) hS ?_
          rotate_left
          · intro wz _; go_simp; try with_reducible rfl
          refine wpAnyH_take (i := 13) (v := ?_) rfl (by kernel_rfl) (by kernel_rfl) (by kernel_rfl) (fun _ _ _ h => h) (Or.inl ⟨by kernel_rfl, ?_⟩) hS ?_
          rotate_left
          · intro wz _; go_simp; try with_reducible rfl
          refine wpAnyH_take (i := 14) (v := ?_) rfl (by kernel_rfl) (by kernel_rfl) (by kernel_rfl) (fun _ _ _ h => h) (Or.inl ⟨by kernel_rfl, ?_⟩) hS ?_
          rotate_left
          · intro wz _; go_simp; try with_reducible rfl
          refine wpAnyH_take (i := 15) (v := ?_) rfl (by kernel_rfl) (by kernel_rfl) (by kernel_rfl) (fun _ _ _ h => h) (Or.inl ⟨by kernel_rfl, ?_⟩) hS ?_
          rotate_left
          · intro wz _; go_simp; try with_reducible rfl
          refine wpAnyH_take (i := 16) (v := ?_) rfl (by kernel_rfl) (by kernel_rfl) (by kernel_rfl) (fun _ _ _ h => h) (Or.inl ⟨by kernel_rfl, ?_⟩) hS ?_
          rotate_left
          · intro wz _; go_simp; try with_reducible rfl
          refine wpAnyH_done (by kernel_rfl) ?_ _
          clear hS hi1 hi2 hi3 hi4 hi5 hi6 hi7 hwi hnI
          refine thenX_named ?_
          intro w5 hw5
          subst hw5
          go_wp2_with fail
          refine By.upon HO4.out ?_
          go_wp2_with fail
          refine By.upon HS4.out.1.by ?_
          go_wp2_with fail
          go_roundg g
          case measure => omega
          case rel => exact ⟨i + 1, by go_num, by have := HKI.out; omega, HK4.out⟩
      · have hlt : decide ((i : Int) < (ln : Int)) = false := by simp; omega
        go_wp2_with fail
        refine (qwrite_any a n cap xs la ln lc l wr (HBB.out wr HKW.out) (fun w' h => HV.out w' (HKW.out.trans (h.mono HKW.out.size))) HSM.out (by omega) (by have := HLN.out; omega)).mono ?_
        rintro e w3 ⟨hk3, hr3⟩
        have HK3 : Hid (Below w.heap.size w w3) := Lib.hid (HKW.out.trans (hk3.mono HKW.out.size))
        have HSB : Hid (Sb w3.heap.size w3 a n n xs) := Lib.hid ⟨(HBB.out w3 HK3.out).tightQ.full, fun b hb => Nat.lt_of_lt_of_le (HLT.out b hb) HK3.out.size⟩
        have hnI : (n : Int) ≤ (cap : Int) := by omega
        cases hen : encsO xs l with
        | none =>
          rw [hen] at hr3
          have hr' : e = .returned (.tuple #[.slice none 0 0, .int .i64 30]) := hr3
          subst hr'
          have HEN := Lib.hid hen
          clear hr3 hen hk3
          go_wp2_with fail
          refine (rframes_any w3.heap.size a n n xs la ln lc l w3 HSB.out (fun w' h => HV.out w' (HK3.out.trans (h.mono HK3.out.size))) HSM.out (by omega) (by have := HLN.out; omega) (Nat.le_refl _)).mono ?_
          intro e w4 h4
          have HK4 : Hid (Below w.heap.size w w4) := Lib.hid (HK3.out.trans (h4.below.mono HK3.out.size))
          obtain ⟨hk4, hr4⟩ := h4
          rw [HEN.out] at hr4
          have hr' : e = .returned (.tuple #[.slice none 0 0, .int .i64 30]) := hr4
          subst hr'
          clear hk4 hr4
          go_wp2_with fail
          refine By.upon (By.nil _) ?_
          go_wp2_with fail
          refine By.upon (By.nil _) ?_
          go_wp2_with fail
          go_returns
          exact ⟨rfl, HK4.out⟩
        | some zs =>
          rw [hen] at hr3
          obtain ⟨a3, n3, c3, rfl, ho3⟩ := hr3
          have HEN := Lib.hid hen
          have HO3 := Lib.hid ho3
          clear ho3 hen hk3
          go_wp2_with fail
          refine (rframes_any w3.heap.size a n n xs la ln lc l w3 HSB.out (fun w' h => HV.out w' (HK3.out.trans (h.mono HK3.out.size))) HSM.out (by omega) (by have := HLN.out; omega) (Nat.le_refl _)).mono ?_
          intro e w4 h4
          have HK4 : Hid (Below w.heap.size w w4) := Lib.hid (HK3.out.trans (h4.below.mono HK3.out.size))
          obtain ⟨hk4, hr4⟩ := h4
          rw [HEN.out] at hr4
          obtain ⟨a4, n4, c4, rfl, hs4, _⟩ := hr4
          have HS4 := Lib.hid hs4
          have HO4 : Hid (By w4 a3 n3 c3 zs) := Lib.hid (HO3.out.by.keep hk4 (fun b hb h => by have h1 := (HO3.out.ge b hb).2; have h2 : w3.heap.size ≤ b := h.1; omega))
          clear hk4 hs4
          go_wp2_with fail
          refine By.upon HO4.out ?_
          go_wp2_with fail
          refine By.upon HS4.out.1.by ?_
          go_wp2_with fail
          go_returns
          exact ⟨by simp, HK4.out⟩


end Go.Proofs.Ytgfkgmmigbpciaa
