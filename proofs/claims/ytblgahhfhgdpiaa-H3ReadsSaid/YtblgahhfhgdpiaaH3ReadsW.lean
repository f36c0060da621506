/- The walk of H3Reads. -/
import Derived.Test.YtblgahhfhgdpiaaH3L
namespace Go.Proofs.Ytblgahhfhgdpiaa
open Go.RowKit Go.Deep Go.Maps

theorem and62 (t : Int) (h0 : 0 ≤ t) (h1 : t ≤ 18446744073709551615) : bits .and .u64 t 4611686018427387903 = t % 4611686018427387904 := by
  have := and64 62 (a := t) (m := 4611686018427387903) h0 (by omega) (by omega) (by simp)
  rw [this]
  simp
theorem resB_31 (t : Int) (h0 : 0 ≤ t) : resB (31 * t + 33) = true := by
  unfold resB
  simp only [decide_eq_true_eq]
  omega
theorem varsR_le (vs : List Int) (u v : Int) (h : vs = [u, v]) : (varsR [] vs).length ≤ 16 := by
  subst h
  have := varsE_two u v
  unfold varsR
  split <;> simp <;> omega

set_option maxHeartbeats 3200000 in
theorem walkH3Reads (w : World) (v0 : Value) (h0 : Arg Try.prog w 22 v0) (t : Int) (ht : (Lit.int .u64 t).wf = true) (n : Int) (hn : (Lit.int .u16 n).wf = true) :
    Calls Try.prog 4 #[v0, .int .u64 t, .int .u16 n] w fun e w' => e = .returned (.bool true) ∧ Below w.heap.size w w' := by
  obtain ⟨a, m, cap, xs, rfl, hby, hkeep⟩ := h0.bytes
  obtain ⟨t0, t1⟩ := wf_u64_iff ht
  obtain ⟨n0, n1⟩ := wf_u16_iff hn
  have HKEEP := Lib.hid hkeep
  have hcap := hby.2.le
  have hmax := hby.2.max
  have HXM : Hid (m = xs.length) := hby.1
  unfold maxLen at hmax
  clear hby hkeep h0 ht hn
  go_enter Try.func4, Try.ntmps4
  go_wp2_with fail
  refine (known_any w).mono ?_
  rintro e w1 ⟨rfl, hk1⟩
  have HK := Lib.hid hk1
  clear hk1
  by_cases hm : 300 < m
  · go_wp2_with fail
    go_returns
    exact ⟨rfl, HK.out⟩
  · have hand := and62 t t0 t1
    have hmb0 : 0 ≤ t % 4611686018427387904 := Int.emod_nonneg _ (by omega)
    have hmb1 : t % 4611686018427387904 ≤ 4611686018427387903 := by omega
    go_wp2_with fail
    refine (varsr_o w1.heap.size none 0 0 [] w1.heap.size 2 2 [t % 4611686018427387904, 16382 + n % 5] _ (Bo.nil _ _) (Uv.two w1 _ _ _ hmb0 (by omega) (by omega) (by omega)) (by simp) (fun b hb => by cases hb) (by omega) (by omega)).mono ?_
    rintro e w2 ⟨a2, n2, c2, rfl, ho2, hk2⟩
    have hle2 := varsR_le _ _ _ (rfl : [t % 4611686018427387904, 16382 + n % 5] = _)
    generalize varsR [] [t % 4611686018427387904, 16382 + n % 5] = ls at *
    generalize varsErr [t % 4611686018427387904, 16382 + n % 5] = er at *
    have hn2 : n2 ≤ 16 := by have := ho2.1; omega
    have HO2 := Lib.hid ho2
    have HK2 := Lib.hid ((HK.out.alloc HK.out.size _).trans (hk2.mono HK.out.size))
    have HB2 := Lib.hid (HKEEP.out w2 HK2.out)
    have hs12 : w1.heap.size ≤ w2.heap.size := by have := hk2.size; simp at this; omega
    clear ho2 hk2 hle2 hand
    go_wp2_with (at_builtin; refine halt ?_)
    refine Halted.go (wpList_app8 w2 rfl _ _ 22 rfl w1.heap.size a2 _ c2 ls rfl HO2.out.bd (.slice a m cap) rfl xs (by have h := HB2.out.2.src Try.underlying22 (Bs_one xs); rw [HXM.out] at h ⊢; exact h) (by have := HXM.out; omega) hs12 ?_)
    intro a4 c4 w4 ho4 hk4 hn4 hown4 hnil4
    have hbo : Bo w1.heap.size w4 a4 (n2 + xs.length) c4 (ls ++ xs) := by
      by_cases h0 : xs.length = 0
      · obtain ⟨rfl, rfl, rfl⟩ := hnil4 h0
        obtain rfl : xs = [] := List.eq_nil_of_length_eq_zero h0
        simpa using HO2.out
      · exact hown4 (by omega)
    have HO4 := Lib.hid hbo
    have HK4 := Lib.hid (Keeps.mine_below HK2.out hk4 HK2.out.size HK.out.size)
    have hxl : xs.length ≤ 300 := by have := HXM.out; omega
    have HXL := Lib.hid hxl
    clear ho4 hk4 hn4 hown4 hnil4 hbo
    go_wp2_with fail
    have hb5 := Blk.new w4 #[.slice a m cap, .slice a4 (n2 + xs.length) c4] 22
    have HK5 := Lib.hid (HK4.out.alloc HK4.out.size (.cells #[.slice a m cap, .slice a4 (n2 + xs.length) c4] 22 (0, 0)))
    have hs5 : (w4.alloc (.cells #[.slice a m cap, .slice a4 (n2 + xs.length) c4] 22 (0, 0))).heap.size = w4.heap.size + 1 := by simp
    have HA5 : Hid (∀ w', Below (w4.alloc (.cells #[.slice a m cap, .slice a4 (n2 + xs.length) c4] 22 (0, 0))).heap.size (w4.alloc (.cells #[.slice a m cap, .slice a4 (n2 + xs.length) c4] 22 (0, 0))) w' → By w' a4 (n2 + xs.length) c4 (ls ++ xs)) :=
      fun w' hb => (HO4.out.by.alloc _).below hb (fun b h => by have := HO4.out.lt b h; simp; omega)
    have HB5 := Lib.hid hb5
    have HS5 := Lib.hid hs5
    clear hb5 hs5
    generalize w4.alloc (.cells #[.slice a m cap, .slice a4 (n2 + xs.length) c4] 22 (0, 0)) = w5 at *
    go_loopg [39] 2 (fun k vi wr => ∃ (i : Nat), k + i = 2 ∧ vi = .int .i64 i ∧ Below w5.heap.size w5 wr)
    case atStart => exact ⟨0, by omega, rfl, Below.refl _ _⟩
    case round =>
      obtain ⟨i, hi, rfl, hk⟩ := hrel
      have HI := Lib.hid hi
      have HKW := Lib.hid hk
      clear hi hk
      have hsw : w5.heap.size ≤ wr.heap.size := HKW.out.size
      have HKR := Lib.hid (HK5.out.trans (HKW.out.mono HK5.out.size))
      by_cases hi2 : i < 2
      · have hy : ∃ (ay : Option Addr) (ny cy : Nat) (ys : List UInt8), wr.cell? ⟨w4.heap.size, i, none⟩ = some (.slice ay ny cy) ∧ ny ≤ 1000 ∧ ∀ w', Below wr.heap.size wr w' → By w' ay ny cy ys := by
          have hb := (Below.keeps HKW.out).blk HB5.out (by have := HS5.out; omega)
          have hcase : i = 0 ∨ i = 1 := by omega
          rcases hcase with rfl | rfl
          · exact ⟨a, m, cap, xs, by rw [hb.cell]; rfl, by omega, fun w' h => HKEEP.out w' (HKR.out.trans (h.mono HKR.out.size))⟩
          · exact ⟨a4, n2 + xs.length, c4, ls ++ xs, by rw [hb.cell]; rfl, by have := HXL.out; omega, fun w' h => HA5.out w' (HKW.out.trans (h.mono HKW.out.size))⟩
        obtain ⟨ay, ny, cy, ys, hcy, hny, hst⟩ := hy
        have HST := Lib.hid hst
        have hi0 : (0 : Int) ≤ (i : Int) := by omega
        clear hst
        go_wp2_with fail
        refine (h3read_any ay ny cy ys wr (HST.out wr (Below.refl _ _)) (by omega)).mono ?_
        rintro e w6 ⟨a6, n6, c6, rfl, ho6, hk6⟩
        generalize hfr : frR ys = fr at *
        have HFR := Lib.hid hfr
        clear hfr
        obtain ⟨f1, f2, f3, f4⟩ := fr
        simp only at ho6
        have HO6 := Lib.hid ho6
        have HK6 := Lib.hid hk6
        have HK6a := Lib.hid (hk6.alloc hk6.size (.cells #[.int .u64 f1, .slice a6 n6 c6] 33 (0, 0)))
        clear ho6 hk6
        go_wp2_with fail
        refine (h3readr_any ay ny cy ys _ (HST.out _ HK6a.out) (by omega)).mono ?_
        rintro e w7 ⟨a7, n7, c7, rfl, ho7, hk7⟩
        rw [HFR.out]
        rw [HFR.out] at ho7
        simp only at ho7
        have hx7 := (Below.keeps hk7).blk (Blk.new w6 #[.int .u64 f1, .slice a6 n6 c6] 33) (by simp)
        have HO7 := Lib.hid ho7
        have HO6a := Lib.hid (((HO6.out.by.alloc (.cells #[.int .u64 f1, .slice a6 n6 c6] 33 (0, 0))).below hk7 (fun b h => by have := HO6.out.lt b h; simp; omega)).alloc (.cells #[.int .u64 f1, .slice a7 n7 c7] 33 (0, 0)))
        have HO7a := Lib.hid (HO7.out.by.alloc (.cells #[.int .u64 f1, .slice a7 n7 c7] 33 (0, 0)))
        have hk8 := (HKW.out.trans (HK6a.out.mono hsw)).trans (hk7.mono (by have := HK6.out.size; simp; omega))
        have HK8 := Lib.hid (hk8.alloc hk8.size (.cells #[.int .u64 f1, .slice a7 n7 c7] 33 (0, 0)))
        have q0 : (w7.alloc (.cells #[.int .u64 f1, .slice a7 n7 c7] 33 (0, 0))).cell? ⟨w6.heap.size, 0, none⟩ = some (.int .u64 f1) := (hx7.alloc _).cell 0
        have q1 : (w7.alloc (.cells #[.int .u64 f1, .slice a7 n7 c7] 33 (0, 0))).cell? ⟨w6.heap.size, 1, none⟩ = some (.slice a6 n6 c6) := (hx7.alloc _).cell 1
        clear ho7 hk7 hk8 hx7
        go_wp2_with fail
        refine By.upon HO6a.out ?_
        go_wp2_with fail
        refine By.upon HO7a.out ?_
        go_wp2_with fail
        obtain ⟨g, rfl⟩ : ∃ g, gk = g + 1 := ⟨gk - 1, by have := HI.out; omega⟩
        go_roundg g
        case measure => omega
        case rel => exact ⟨i + 1, by have := HI.out; omega, by go_num, HK8.out⟩
      · go_wp2_with fail
        refine (reserved_any t wr t0 t1).mono ?_
        rintro e w' ⟨rfl, rfl⟩
        go_wp2_with fail
        refine (reservedr_any t wr t0 t1).mono ?_
        rintro e w' ⟨rfl, rfl⟩
        go_wp2_with fail
        refine (reserved_any (t % 200) wr (by omega) (by omega)).mono ?_
        rintro e w' ⟨rfl, rfl⟩
        go_wp2_with fail
        refine (reservedr_any (t % 200) wr (by omega) (by omega)).mono ?_
        rintro e w' ⟨rfl, rfl⟩
        by_cases ht50 : 1125899906842624 < t
        · go_wp2_with fail
          go_returns
          exact ⟨rfl, HKR.out⟩
        · go_wp2_with fail
          refine (reserved_any (31 * t + 33) wr (by omega) (by omega)).mono ?_
          rintro e w' ⟨rfl, rfl⟩
          rw [resB_31 t t0]
          go_wp2_with fail
          go_returns
          exact ⟨rfl, HKR.out⟩

end Go.Proofs.Ytblgahhfhgdpiaa
