/- The walk of H3Settings. -/
import Derived.Test.YtblgahhfhgdpiaaH3M
namespace Go.Proofs.Ytblgahhfhgdpiaa
open Go.RowKit Go.Deep Go.Maps

set_option maxHeartbeats 3200000 in
theorem walkH3Settings (w : World) (v0 : Value) (h0 : Arg Try.prog w 45 v0) :
    Calls Try.prog 5 #[v0] w fun e w' => e = .returned (.bool true) ∧ Below w.heap.size w w' := by
  obtain ⟨a, n, cap, l, rfl, hkeep⟩ := h0.sets
  have hsv := hkeep w (Below.refl _ _)
  have HKEEP := Lib.hid hkeep
  have hcap := hsv.2.1.le
  have hmax := hsv.2.1.max
  have HN : Hid (n = l.length) := hsv.1
  have HIN := Lib.hid hsv.2.2
  unfold maxLen at hmax
  clear hsv hkeep h0
  go_enter Try.func5, Try.ntmps5
  go_wp2_with fail
  refine (known_any w).mono ?_
  rintro e w1 ⟨rfl, hk1⟩
  have HK := Lib.hid hk1
  clear hk1
  by_cases hm : 40 < n
  · go_wp2_with fail
    go_returns
    exact ⟨rfl, HK.out⟩
  · have hs1 := HK.out.size
    have HBL : Hid ((setB l).length ≤ 640) := by show _ ≤ _; have := setB_le l; have := HN.out; omega
    have HRB := Lib.hid (rsR_setB l HIN.out)
    go_wp2_with fail
    refine (set_any a n cap l w1 (fun w' hb => HKEEP.out w' (HK.out.trans (hb.mono hs1))) (by omega)).mono ?_
    rintro e w2 ⟨a2, n2, c2, rfl, ho2, hk2⟩
    generalize hE : setErr l = er at *
    generalize hT : setT l = tt at *
    generalize hB : setB l = bs at *
    have HE := Lib.hid hE
    have HT := Lib.hid hT
    have HB := Lib.hid hB
    have HO2 := Lib.hid ho2
    have hk2a := hk2.alloc hk2.size (.cells #[.int .u64 tt, .slice a2 n2 c2] 33 (0, 0))
    have HK2 := Lib.hid (HK.out.trans (hk2a.mono hs1))
    have HK12 := Lib.hid hk2a
    have hs2 : w.heap.size ≤ w2.heap.size := Nat.le_trans hs1 hk2.size
    have HF2 := Lib.hid (Blk.new w2 #[.int .u64 tt, .slice a2 n2 c2] 33)
    have hsa : (w2.alloc (.cells #[.int .u64 tt, .slice a2 n2 c2] 33 (0, 0))).heap.size = w2.heap.size + 1 := by simp
    have HSA := Lib.hid hsa
    have HO2a := Lib.hid (HO2.out.by.alloc (.cells #[.int .u64 tt, .slice a2 n2 c2] 33 (0, 0)))
    have HLT2 := Lib.hid HO2.out.lt
    clear ho2 hk2 hk2a hE hT hB hsa
    go_wp2_with fail
    refine (setr_any a n cap l _ (fun w' hb => HKEEP.out w' (HK2.out.trans (hb.mono HK2.out.size)))).mono ?_
    rintro e w3 ⟨a3, n3, c3, rfl, ho3, hk3⟩
    rw [HE.out, HT.out]
    rw [HB.out] at ho3
    have hf2 := (Below.keeps hk3).blk HF2.out (by rw [HSA.out]; omega)
    have HO2b := Lib.hid (HO2a.out.below hk3 (fun b hb => by rw [HSA.out]; have := HLT2.out b hb; omega))
    have HK3 := Lib.hid (HK2.out.trans (hk3.mono HK2.out.size))
    have HO3 := Lib.hid ho3
    have hs3 : w2.heap.size + 1 ≤ w3.heap.size := by have := hk3.size; rw [HSA.out] at this; exact this
    have q0 : (w3.alloc (.cells #[.int .u64 tt, .slice a3 n3 c3] 33 (0, 0))).cell? ⟨w2.heap.size, 0, none⟩ = some (.int .u64 tt) := (hf2.alloc _).cell 0
    have q1 : (w3.alloc (.cells #[.int .u64 tt, .slice a3 n3 c3] 33 (0, 0))).cell? ⟨w2.heap.size, 1, none⟩ = some (.slice a2 n2 c2) := (hf2.alloc _).cell 1
    have hf3 := Blk.new w3 #[.int .u64 tt, .slice a3 n3 c3] 33
    have q2 : (w3.alloc (.cells #[.int .u64 tt, .slice a3 n3 c3] 33 (0, 0))).cell? ⟨w3.heap.size, 0, none⟩ = some (.int .u64 tt) := hf3.cell 0
    have q3 : (w3.alloc (.cells #[.int .u64 tt, .slice a3 n3 c3] 33 (0, 0))).cell? ⟨w3.heap.size, 1, none⟩ = some (.slice a3 n3 c3) := hf3.cell 1
    have HF3 := Lib.hid hf3
    have HK4 := Lib.hid (HK3.out.alloc HK3.out.size (.cells #[.int .u64 tt, .slice a3 n3 c3] 33 (0, 0)))
    have HX2 := Lib.hid (HO2b.out.alloc (.cells #[.int .u64 tt, .slice a3 n3 c3] 33 (0, 0)))
    have HX3 := Lib.hid (HO3.out.by.alloc (.cells #[.int .u64 tt, .slice a3 n3 c3] 33 (0, 0)))
    have HLT3 : Hid (∀ b, a3.map (·.block) = some b → b < w3.heap.size) := HO3.out.lt
    have hs4 : (w3.alloc (.cells #[.int .u64 tt, .slice a3 n3 c3] 33 (0, 0))).heap.size = w3.heap.size + 1 := by simp
    have HS4 := Lib.hid hs4
    clear ho3 hk3 hf2 hf3 hs4
    go_wp2_with fail
    refine By.upon HX2.out ?_
    go_wp2_with fail
    refine By.upon HX3.out ?_
    generalize w3.alloc (.cells #[.int .u64 tt, .slice a3 n3 c3] 33 (0, 0)) = w4 at *
    have hl2 : n2 ≤ 1000 := by have h1 := HX2.out.1; have h2 := HBL.out; omega
    have hl3 : n3 ≤ 1000 := by have h1 := HX3.out.1; have h2 := HBL.out; omega
    have ST2 := Lib.hid (Stay.new HX2.out (fun b hb => by rw [HS4.out]; have := HLT2.out b hb; omega))
    go_wp2_with fail
    refine (rset_any tt a2 n2 c2 bs w4 ST2.out (by omega)).mono ?_
    rintro e w5 ⟨a5, n5, c5, rfl, ho5, hk5⟩
    generalize hrs : rsR tt bs = rs at *
    have HRS := Lib.hid hrs
    clear hrs
    obtain ⟨ms, r⟩ := rs
    have hf5 := (Below.keeps hk5).blk HF3.out (by rw [HS4.out]; omega)
    have p2 : w5.cell? ⟨w3.heap.size, 0, none⟩ = some (.int .u64 tt) := hf5.cell 0
    have p3 : w5.cell? ⟨w3.heap.size, 1, none⟩ = some (.slice a3 n3 c3) := hf5.cell 1
    have HO5 := Lib.hid ho5
    have HK5 := Lib.hid (HK4.out.trans (hk5.mono HK4.out.size))
    have ST3 := Lib.hid (Stay.new (HX3.out.below hk5 (fun b hb => by rw [HS4.out]; have := HLT3.out b hb; omega)) (fun b hb => by have h1 := hk5.size; rw [HS4.out] at h1; have := HLT3.out b hb; omega))
    clear ho5 hk5 hf5 q0 q1 q2 q3
    go_wp2_with fail
    refine (rsetr_any tt a3 n3 c3 bs w5 ST3.out (by omega)).mono ?_
    rintro e w6 ⟨a6, n6, c6, rfl, ho6, hk6⟩
    rw [HRS.out]
    rw [HRS.out] at ho6
    simp only at ho6
    have HK6 := Lib.hid (HK5.out.trans (hk6.mono HK5.out.size))
    have HSV5 := Lib.hid (HO5.out.below hk6).sv
    have HSV6 := Lib.hid ho6.sv
    have HSVL := Lib.hid (HKEEP.out w6 HK6.out)
    clear ho6 hk6 p2 p3
    by_cases he0 : er = 0
    · subst he0
      go_wp2_with fail
      refine (helpset_any a5 n5 c5 ms a6 n6 c6 ms w6 HSV5.out HSV6.out).mono ?_
      rintro e w' ⟨rfl, q, rfl⟩
      simp only [decide_true]
      by_cases hr0 : r = 0
      · subst hr0
        have hml : decide (ms = l) = true := by have h := HRB.out; simp only [true_implies, forall_const] at h; simpa using h
        go_wp2_with fail
        refine (helpset_any a5 n5 c5 ms a n cap l _ (HSV5.out.drewN q) (HSVL.out.drewN q)).mono ?_
        rintro e w' ⟨rfl, q2, rfl⟩
        rw [hml]
        go_wp2_with fail
        go_returns
        exact ⟨rfl, Below.drewN' HK6.out (q + q2)⟩
      · have hb : (r != 0) = true := by simpa using hr0
        go_wp2_with fail
        go_returns
        exact ⟨rfl, Below.drewN' HK6.out q⟩
    · have hb : (er != 0) = true := by simpa using he0
      go_wp2_with fail
      go_returns
      exact ⟨rfl, HK6.out⟩

end Go.Proofs.Ytblgahhfhgdpiaa
