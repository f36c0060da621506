/- The walk of H3Back. -/
import Derived.Test.YtblgahhfhgdpiaaH3L
namespace Go.Proofs.Ytblgahhfhgdpiaa
open Go.RowKit Go.Deep Go.Maps

theorem h3writer_full (a : Option Addr) (m cap : Nat) (xs : List UInt8) (a2 : Option Addr) (m2 cap2 : Nat) (l : List Fr) (w : World) (hb : By w a m cap xs) (hv : ∀ w', Below w.heap.size w w' → Hv w' a2 m2 cap2 l) (hl : m ≤ 1000000) (hl2 : m2 ≤ 100) (hl3 : ∀ f ∈ l, f.n ≤ 1000000) :
    Calls Try.prog 12 #[.slice a m m, .slice a2 m2 cap2] w fun e w' => ∃ a' n' cap', e = .returned (.tuple #[.slice a' n' cap', .int .i64 (frsErr l)]) ∧ By w' a' n' cap' (frsR xs l) ∧ Below w.heap.size w w' := h3writer_any a m cap xs a2 m2 cap2 l w hb hv hl hl2 hl3

set_option maxHeartbeats 3200000 in
theorem walkH3Back (w : World) (v0 : Value) (h0 : Arg Try.prog w 22 v0) (v1 : Value) (h1 : Arg Try.prog w 23 v1) :
    Calls Try.prog 3 #[v0, v1] w fun e w' => e = .returned (.bool true) ∧ Below w.heap.size w w' := by
  obtain ⟨a, m, cap, xs, rfl, hby, hkeep⟩ := h0.bytes
  obtain ⟨a1, n, cap1, l, rfl, hkeep1⟩ := h1.frames
  have hby1 := hkeep1 w (Below.refl _ _)
  have HKEEP := Lib.hid hkeep
  have HKEEP1 := Lib.hid hkeep1
  have hcap := hby.2.le
  have hmax := hby.2.max
  have hcap1 := hby1.2.1.le
  have hmax1 := hby1.2.1.max
  have HXM : Hid (m = xs.length) := hby.1
  have HN : Hid (n = l.length) := hby1.1
  unfold maxLen at hmax hmax1
  clear hby hkeep h0 hby1 hkeep1 h1
  go_enter Try.func3, Try.ntmps3
  go_wp2_with fail
  refine (known_any w).mono ?_
  rintro e w1 ⟨rfl, hk1⟩
  have HB := Lib.hid (HKEEP.out w1 hk1)
  have HF := Lib.hid (HKEEP1.out w1 hk1)
  have HK := Lib.hid hk1
  clear hk1
  by_cases hm : 100 < m
  · go_wp2_with fail
    go_returns
    exact ⟨rfl, HK.out⟩
  · go_wp2_with fail
    refine (light_any a1 n cap1 l w1 HF.out).mono ?_
    rintro e w' ⟨rfl, rfl⟩
    by_cases hlt : lightB l = true
    · rw [hlt]
      unfold lightB at hlt
      simp only [decide_eq_true_eq] at hlt
      have hn10 : n ≤ 10 := by rw [HN.out]; exact hlt.1
      have HL := Lib.hid hlt.2
      clear hlt
      go_wp2_with fail
      refine (h3write_any a m cap xs a1 n cap1 l w1 HB.out (fun w' hb => HKEEP1.out w' (HK.out.trans (hb.mono HK.out.size))) (by omega) (by omega) (fun f hf => by have := HL.out f hf; omega)).mono ?_
      rintro e w2 ⟨a2, m2, c2, rfl, ho2, hk2⟩
      have HO2 := Lib.hid ho2
      have HK2 := Lib.hid (HK.out.trans (hk2.mono HK.out.size))
      clear ho2 hk2
      have HB2 := Lib.hid (HKEEP.out w2 HK2.out)
      go_wp2_with fail
      refine (h3writer_any a m cap xs a1 n cap1 l w2 HB2.out (fun w' hb => HKEEP1.out w' (HK2.out.trans (hb.mono HK2.out.size))) (by omega) (by omega) (fun f hf => by have := HL.out f hf; omega)).mono ?_
      rintro e w3 ⟨a3, m3, c3, rfl, ho3, hk3⟩
      have HO3 := Lib.hid ho3
      have HK3 := Lib.hid (HK2.out.trans (hk3.mono HK2.out.size))
      have HC3 := Lib.hid (HO2.out.by.below hk3 HO2.out.lt)
      have HLT3 : Hid (∀ b, a2.map (·.block) = some b → b < w3.heap.size) := fun b hb => Nat.lt_of_lt_of_le (HO2.out.lt b hb) hk3.size
      clear ho3 hk3
      go_wp2_with fail
      refine By.upon HC3.out ?_
      go_wp2_with fail
      refine By.upon HO3.out ?_
      by_cases hok : frsOK l = true
      · have he : frsErr l = 0 := by unfold frsErr; rw [hok]; rfl
        have hr : frsR xs l = xs ++ frsE l := by unfold frsR; rw [hok]; rfl
        rw [he]
        rw [hr] at HC3 HO3
        have HOK := Lib.hid hok
        have hc2 := HC3.out.2.le
        have hmx2 := HC3.out.2.max
        unfold maxLen at hmx2
        have hxl : ∀ f ∈ l, f.xs.length ≤ 200 := fun f hf => by
          have h1 := ((HF.out.2.2 f hf).2.2).1
          have h2 := HL.out f hf
          omega
        have hle := frsE_le l hxl
        have hm2 : m2 = m + (frsE l).length := by have h1 := HC3.out.1; have h2 := HXM.out; simp at h1; omega
        have hm2b : m2 ≤ 3000 := by have := HN.out; omega
        have HM2 := Lib.hid hm2
        have HXL := Lib.hid hxl
        clear hok he hr hle hm2 hxl
        go_wp2_with fail
        go_loopg [9, 10] n (fun k va vi wr => ∃ (i t : Nat), k + i = n ∧ vi = .int .i64 i ∧ va = .int .i64 t ∧ t = m + (frsE (l.take i)).length ∧ Below w3.heap.size w3 wr)
        case atStart => exact ⟨0, m, by omega, rfl, rfl, by simp [frsE], Below.refl _ _⟩
        case round =>
          obtain ⟨i, t, hi, rfl, rfl, ht, hk⟩ := hrel
          have HI := Lib.hid hi
          have HT := Lib.hid ht
          have HKW := Lib.hid hk
          clear hi ht hk
          by_cases hik : i < n
          · have hix : i < l.length := by have := HN.out; omega
            have HFA := Lib.hid (frsE_at l i hix)
            have hbd := Lib.hid (HKEEP1.out wr (HK3.out.trans (HKW.out.mono HK3.out.size)))
            have hto := offA_eq a2 c2 t
            have hxl2 := HXL.out l[i] (List.getElem_mem hix)
            obtain ⟨hu0, hu1, hfby⟩ := hbd.out.2.2 l[i] (List.getElem_mem hix)
            have ht2 : t + (frE l[i]).length ≤ m2 := by
              have h1 := HT.out
              have h2 := HM2.out
              have h4 := congrArg List.length HFA.out
              simp at h4
              omega
            have ht3 : t ≤ m2 := by omega
            have HTL : Hid (By wr (offA a2 c2 t) (m2 - t) (c2 - t) (frE l[i] ++ frsE (l.drop (i + 1)))) := by
              have h := (HC3.out.below HKW.out HLT3.out).from t ht3
              have e : (xs ++ frsE l).drop t = frE l[i] ++ frsE (l.drop (i + 1)) := by
                rw [HFA.out, ← List.append_assoc, List.drop_left' (by have := HT.out; have := HXM.out; simp; omega)]
              rwa [e] at h
            have hokf : frOK l[i] = true := by
              have := HOK.out
              unfold frsOK at this
              exact List.all_eq_true.1 this l[i] (List.getElem_mem hix)
            have HRR := Lib.hid (frR_frE l[i] (frsE (l.drop (i + 1))) hu0 hokf (by omega))
            clear hokf
            go_wp2_with fail
            refine (h3read_any _ _ _ _ wr HTL.out (by omega)).mono ?_
            rintro e w5 ⟨a5, n5, c5, rfl, ho5, hk5⟩
            rw [HRR.out]
            rw [HRR.out] at ho5
            have HO5 := Lib.hid ho5
            have HK5 := Lib.hid (HKW.out.trans (hk5.mono HKW.out.size))
            clear ho5 hk5 hto
            have hv5 := HKEEP1.out w5 (HK3.out.trans (HK5.out.mono HK3.out.size))
            obtain ⟨bb, oo, rfl, hbb, hcell⟩ := hv5.get (by omega)
            obtain ⟨p1, p2⟩ := hcell i hix
            have HXB := Lib.hid ((hv5.2.2 l[i] (List.getElem_mem hix)).2.2)
            clear hcell hv5 hbd
            go_wp2_with fail
            have hx := Blk.new w5 #[.int .u64 l[i].t, .slice a5 n5 c5] 33
            have q0 : (w5.alloc (.cells #[.int .u64 l[i].t, .slice a5 n5 c5] 33 (0, 0))).cell? ⟨w5.heap.size, 0, none⟩ = some (.int .u64 l[i].t) := hx.cell 0
            have q1 : (w5.alloc (.cells #[.int .u64 l[i].t, .slice a5 n5 c5] 33 (0, 0))).cell? ⟨w5.heap.size, 1, none⟩ = some (.slice a5 n5 c5) := hx.cell 1
            have hal := Below.alloc (Below.refl w5.heap.size w5) (Nat.le_refl _) (.cells #[.int .u64 l[i].t, .slice a5 n5 c5] 33 (0, 0))
            have r1 := (hal.cell (p := ⟨bb, oo + i * 2, none⟩) hbb).trans p1
            have r2 := (hal.cell (p := ⟨bb, oo + i * 2 + 1, none⟩) hbb).trans p2
            have HX6 := Lib.hid (HO5.out.by.alloc (.cells #[.int .u64 l[i].t, .slice a5 n5 c5] 33 (0, 0)))
            have HL6 := Lib.hid (HXB.out.alloc (.cells #[.int .u64 l[i].t, .slice a5 n5 c5] 33 (0, 0)))
            have HK6 := Lib.hid (HK5.out.alloc HK5.out.size (.cells #[.int .u64 l[i].t, .slice a5 n5 c5] 33 (0, 0)))
            clear p1 p2 hx hal
            generalize w5.alloc (.cells #[.int .u64 l[i].t, .slice a5 n5 c5] 33 (0, 0)) = w6 at *
            have HX7 : Hid (By w6.drew a5 n5 c5 l[i].xs) := ⟨HX6.out.1, HX6.out.2.drew⟩
            have HL7 : Hid (By w6.drew l[i].a l[i].n l[i].cap l[i].xs) := ⟨HL6.out.1, HL6.out.2.drew⟩
            have hiI : (i : Int) < (n : Int) := by omega
            have hi0 : (0 : Int) ≤ (i : Int) := by omega
            have cv1 := HX7.out.cv
            have cv2 := HL7.out.cv
            go_region_held3 (fun w' => (convert 22 9 (.slice a5 n5 c5)).run Try.prog w' = .ok (.string ⟨l[i].xs.toArray⟩) w' ∧ (convert 22 9 (.slice l[i].a l[i].n l[i].cap)).run Try.prog w' = .ok (.string ⟨l[i].xs.toArray⟩) w' ∧ w'.cell? ⟨w5.heap.size, 0, none⟩ = some (.int .u64 l[i].t) ∧ w'.cell? ⟨w5.heap.size, 1, none⟩ = some (.slice a5 n5 c5) ∧ w'.cell? ⟨bb, oo + i * 2, none⟩ = some (.int .u64 l[i].t) ∧ w'.cell? ⟨bb, oo + i * 2 + 1, none⟩ = some (.slice l[i].a l[i].n l[i].cap)) (go_keep)
              (fail)
            all_goals (
              go_wp2_with fail
              obtain ⟨g, rfl⟩ : ∃ g, gk = g + 1 := ⟨gk - 1, by have := HI.out; omega⟩
              go_roundg g
              case measure => omega
              case rel =>
                refine ⟨i + 1, t + (frE l[i]).length, by have := HI.out; omega, by go_num, by simp, ?_, HK6.out.drew⟩
                have h := congrArg List.length (frsE_step hix [])
                simp at h
                have := HT.out
                omega)
          · have hik2 : i = n := by have := HI.out; omega
            have htm : t = m2 := by
              have h1 := HT.out
              have h2 := HM2.out
              rw [hik2, HN.out, List.take_length] at h1
              omega
            have HTM : Hid (((t : Int) == (m2 : Int)) = true) := by show _ = _; simp [htm]
            clear hik2 htm
            go_wp2_with fail
            go_returns
            exact ⟨by rw [HTM.out]; rfl, HK3.out.trans (HKW.out.mono HK3.out.size)⟩
      · have he : frsErr l = 21 := by unfold frsErr; rw [if_neg hok]
        rw [he]
        clear he hok
        go_wp2_with fail
        go_returns
        exact ⟨rfl, HK3.out⟩
    · have hl2 : lightB l = false := by simpa using hlt
      rw [hl2]
      clear hlt hl2
      go_wp2_with fail
      go_returns
      exact ⟨rfl, HK.out⟩

end Go.Proofs.Ytblgahhfhgdpiaa
