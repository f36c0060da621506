/- The walks of WindowHalf and WindowEdges. -/
import Derived.Test.YtnecdcnokihgoaaWinD
namespace Go.Proofs.Ytnecdcnokihgoaa
open Go.RowKit

set_option maxRecDepth 100000 in
set_option maxHeartbeats 2000000 in
theorem walkWindowHalf (w : World) (a0 : Int) (w0 : (Lit.int .u16 a0).wf = true) (v1 : Value) (hv : Arg Try.prog w 41 v1) :
    Calls Try.prog 7 #[.int .u16 a0, v1] w fun e w' => e = .returned (.bool true) ∧ Below w.heap.size w w' := by
  obtain ⟨h0, h0'⟩ := wf_u16_iff w0
  clear w0
  obtain ⟨ad, len, cap, V, rfl, hl, hcap, hseen, hrd⟩ := (hv.rd_slice Try.underlying41).row Try.underlying41 (by kernel_rfl)
  clear hv
  have HSEEN := Lib.hid hseen
  have HRD := Lib.hid hrd
  clear hseen hrd
  unfold maxLen at hcap
  by_cases hlong : 50 < len
  · go_enter Try.func7, Try.ntmps7
    go_wp2_with fail
    refine (known_any w).mono ?_
    rintro e w1 ⟨rfl, hk⟩
    have HK := Lib.hid hk
    clear hk
    go_wp2_with fail
    go_returns
    exact ⟨rfl, HK.out⟩
  · go_enter Try.func7, Try.ntmps7
    go_wp2_with fail
    refine (known_any w).mono ?_
    rintro e w1 ⟨rfl, hk⟩
    have HK := Lib.hid hk
    have HS := Lib.hid hk.size
    clear hk
    go_wp2_with fail
    refine (innew_any (a0 + 1) _).mono ?_
    rintro e w3 ⟨rfl, hw3⟩
    have eo : inNew (a0 + 1) = ⟨a0 + 1, a0 + 1, 0, 0⟩ := by unfold inNew inSize; rw [if_neg (by split <;> omega), if_neg (by omega)]
    have HB3 : Hid (Blk w3 w1.heap.size (IN.cells ⟨a0 + 1, a0 + 1, 0, 0⟩) 49) := by rw [hw3, eo]; exact Blk.new _ _ _
    have HK3 : Hid (Below w.heap.size w w3) := by rw [hw3]; exact HK.out.alloc HK.out.size _
    clear hw3 eo
    have hs1 : 1 ≤ a0 + 1 := by omega
    have hs2 : a0 + 1 ≤ 65536 := by omega
    go_wp2_with fail
    generalize a0 + 1 = s at *
    clear h0 h0'
    obtain ⟨hh1, hh2, hh3⟩ := half_bd s hs1
    refine (take_any _ ⟨s, s, 0, 0⟩ s _ HB3.out (by simp only [IN.ok]; omega) (by omega) (by omega)).mono ?_
    rintro e wx1 ⟨rfl, hb, hk⟩
    rw [(take_eq s s 0 0 s ⟨by omega, by omega⟩).1, show s - s = 0 by omega, show 0 + s = s by omega] at hb
    rw [(take_eq s s 0 0 s ⟨by omega, by omega⟩).2]
    have HBx1 := Lib.hid hb
    have HKx1 := Lib.hid (Keeps.below HK3.out hk HK3.out.size (by intro k h; subst h; exact HS.out))
    clear hb hk HB3 HK3
    go_wp2_with fail
    refine (take_any _ ⟨s, 0, s, 0⟩ 1 _ HBx1.out (by simp only [IN.ok]; omega) (by omega) (by omega)).mono ?_
    rintro e wx2 ⟨rfl, hb, hk⟩
    rw [show IN.take ⟨s, 0, s, 0⟩ 1 = ⟨s, 0, s, 0⟩ by unfold IN.take; rw [if_neg (by simp)]] at hb
    rw [show IN.takeOK ⟨s, 0, s, 0⟩ 1 = false by simp [IN.takeOK]]
    have HBx2 := Lib.hid hb
    have HKx2 := Lib.hid (Keeps.below HKx1.out hk HKx1.out.size (by intro k h; subst h; exact HS.out))
    clear hb hk HBx1 HKx1
    go_wp2_with fail
    refine (left_any _ ⟨s, 0, s, 0⟩ _ HBx2.out).mono ?_
    rintro e w' ⟨rfl, rfl⟩
    go_wp2_with fail
    go_loopg [7, 8, 9] len (fun k vu vl vi wr => ∃ (i : Nat) (l u : Int), k + i = len ∧ vi = .int .i64 i ∧ vl = .int .i64 l ∧ vu = .int .i64 u ∧ 0 ≤ l ∧ 0 ≤ u ∧ l + u ≤ s ∧ Blk wr w1.heap.size (IN.cells ⟨s, s - l - u, l, u⟩) 49 ∧ Below w.heap.size w wr)
    case atStart => exact ⟨0, s, 0, by omega, rfl, rfl, rfl, by omega, by omega, by omega, by have := HBx2.out; rwa [show s - s - 0 = 0 by omega], HKx2.out⟩
    case round =>
      obtain ⟨i, l, u, hi, rfl, rfl, rfl, hl0, hu0, hsum, hd, hk⟩ := hrel
      have HB0 := Lib.hid hd
      have HK0 := Lib.hid hk
      have HI := Lib.hid hi
      have HOK : Hid ((⟨s, s - l - u, l, u⟩ : IN).ok) := by show IN.ok _; simp only [IN.ok]; omega
      clear hd hk hi HBx2 HKx2
      by_cases hil : i < len
      · obtain ⟨x, e0, hxw⟩ := (HRD.out i (by omega)).int Try.underlying40
        obtain ⟨hx0, hx1⟩ := wf_u16_iff hxw
        obtain ⟨b, off, rfl, hblt, hcell⟩ := HSEEN.out.resolve_left (by omega)
        have c0' := hcell i 0 (by omega) (by omega)
        rw [e0, ← HK0.out.cell hblt] at c0'
        have c0 : wr.cell? ⟨b, off + i, none⟩ = some (.int .u16 x) := by simpa using c0'
        clear hcell e0 hxw c0'
        obtain ⟨k', rfl⟩ : ∃ k', gk = k' + 1 := ⟨gk - 1, by have := HI.out; omega⟩
        have hdn : (if l < x then l else x) = dn ⟨s, s - l - u, l, u⟩ x := by unfold dn; simp only; rw [if_neg (show ¬ x < 0 by omega)]
        have hbd := dn_bd HOK.out x
        simp only at hbd
        obtain ⟨hb0, hb1⟩ := hbd
        have hhs : (if s / 2 < 1 then 1 else s / 2) = half s := rfl
        have hg : (⟨s, s - l - u, l, u⟩ : IN).gave x = if u + dn ⟨s, s - l - u, l, u⟩ x < half s then 0 else u + dn ⟨s, s - l - u, l, u⟩ x := rfl
        have hd : (⟨s, s - l - u, l, u⟩ : IN).done x = if u + dn ⟨s, s - l - u, l, u⟩ x < half s then ⟨s, s - l - u, l - dn ⟨s, s - l - u, l, u⟩ x, u + dn ⟨s, s - l - u, l, u⟩ x⟩ else ⟨s, s - l - u + (u + dn ⟨s, s - l - u, l, u⟩ x), l - dn ⟨s, s - l - u, l, u⟩ x, 0⟩ := rfl
        have HG := Lib.hid hg
        have HD := Lib.hid hd
        clear hg hd
        generalize dn ⟨s, s - l - u, l, u⟩ x = d at *
        by_cases hgd : u + d < half s
        · go_wp2_with fail
          refine (done_any _ ⟨s, s - l - u, l, u⟩ x _ HB0.out HOK.out (by omega) (by omega)).mono ?_
          rintro e wz1 ⟨rfl, hb, hk⟩
          have HBz1 := Lib.hid hb
          have HKz1 := Lib.hid (Keeps.below HK0.out hk HK0.out.size (by intro k h; subst h; exact HS.out))
          clear hb hk HB0 HK0
          have hb := HBz1.out
          rw [HD.out, if_pos hgd, show s - l - u = s - (l - d) - (u + d) by omega] at hb
          have HB9 := Lib.hid hb
          rw [HG.out, if_pos hgd]
          clear hb HBz1
          go_wp2_with fail
          go_roundg k'
          case measure => omega
          case rel => exact ⟨i + 1, l - d, u + d, by have := HI.out; omega, by go_num, rfl, rfl, by omega, by omega, by omega, HB9.out, HKz1.out⟩
        · go_wp2_with fail
          refine (done_any _ ⟨s, s - l - u, l, u⟩ x _ HB0.out HOK.out (by omega) (by omega)).mono ?_
          rintro e wz1 ⟨rfl, hb, hk⟩
          have HBz1 := Lib.hid hb
          have HKz1 := Lib.hid (Keeps.below HK0.out hk HK0.out.size (by intro k h; subst h; exact HS.out))
          clear hb hk HB0 HK0
          have hb := HBz1.out
          rw [HD.out, if_neg (by omega), show s - l - u + (u + d) = s - (l - d) - 0 by omega] at hb
          have HB9 := Lib.hid hb
          rw [HG.out, if_neg (by omega)]
          clear hb HBz1
          go_wp2_with fail
          go_roundg k'
          case measure => omega
          case rel => exact ⟨i + 1, l - d, 0, by have := HI.out; omega, by go_num, rfl, rfl, by omega, by omega, by omega, HB9.out, HKz1.out⟩
      · go_wp2_with fail
        refine (left_any _ ⟨s, s - l - u, l, u⟩ _ HB0.out).mono ?_
        rintro e w' ⟨rfl, rfl⟩
        go_wp2_with fail
        go_returns
        exact ⟨by simp, HK0.out⟩

def lowV (n : Int) : Int := if n < -2147483647 then -2147483647 else n

set_option maxRecDepth 100000 in
set_option maxHeartbeats 4000000 in
theorem walkWindowEdgesYes (w : World) (a0 : Int) (w0 : (Lit.int .i64 a0).wf = true) (a1 : Int) (w1 : (Lit.int .i64 a1).wf = true) (a2 : Int) (w2 : (Lit.int .i64 a2).wf = true) (hcase : outNew a0 + a1.tmod 4294967294 ≤ 2147483647 ∧ -2147483647 ≤ outNew a0 + a1.tmod 4294967294) :
    Calls Try.prog 6 #[.int .i64 a0, .int .i64 a1, .int .i64 a2] w fun e w' => e = .returned (.bool true) ∧ Below w.heap.size w w' := by
  obtain ⟨h0, h0'⟩ := wf_i64_iff w0
  obtain ⟨h1, h1'⟩ := wf_i64_iff w1
  obtain ⟨h2, h2'⟩ := wf_i64_iff w2
  clear w0 w1 w2
  obtain ⟨t1, t2⟩ := tmod_bd a1 4294967294 (by omega)
  have hlo : (if a0 < -2147483647 then -2147483647 else a0) = lowV a0 := rfl
  have hst : (if 2147483647 < lowV a0 then 2147483647 else lowV a0) = outNew a0 := rfl
  obtain ⟨s1, s2⟩ := outNew_ok a0
  have hmx : ∀ n : Int, (if n < 0 then 0 else n) = outMay n := fun n => rfl
  have HMX := Lib.hid hmx
  have hm0 := HMX.out (outNew a0)
  have hm1 := HMX.out (outNew a0 + a1.tmod 4294967294)
  have hm2 : ∀ n : Int, -2147483647 ≤ n → n ≤ 2147483647 → 0 ≤ outMay n ∧ outMay n ≤ 2147483647 ∧ n ≤ outMay n := by intro n _ _; unfold outMay; split <;> omega
  have HM2 := Lib.hid hm2
  have HCASE := Lib.hid hcase
  clear hmx hm2 hcase
  go_enter Try.func6, Try.ntmps6
  go_wp2_with fail
  refine (known_any w).mono ?_
  rintro e w1 ⟨rfl, hk⟩
  have HK := Lib.hid hk
  have HS := Lib.hid hk.size
  clear hk
  go_wp2_with fail
  refine (outnew_any a0 _ h0 h0').mono ?_
  rintro e w2 ⟨rfl, hw2⟩
  have HA : Hid (Blk w2 w1.heap.size (outCells (outNew a0)) 45) := by rw [hw2]; exact Blk.new _ _ _
  have HK2 : Hid (Below w.heap.size w w2) := by rw [hw2]; exact HK.out.alloc HK.out.size _
  clear hw2
  go_wp2_with fail
  refine (may_any _ (outNew a0) _ HA.out).mono ?_
  rintro e w' ⟨rfl, rfl⟩
  have hok := HCASE.out
  clear HCASE
  generalize outNew a0 = s at *
  obtain ⟨ok1, ok2⟩ := hok
  have q1 : outShiftOK s (a1.tmod 4294967294) = true := by simp only [outShiftOK, decide_eq_true_eq]; omega
  have q2 : outShift s (a1.tmod 4294967294) = s + a1.tmod 4294967294 := by rw [outShift, if_pos q1]
  have S1 := Lib.hid q1
  have S2 := Lib.hid q2
  clear q1 q2
  go_wp2_with fail
  refine (shift_any _ s (a1.tmod 4294967294) _ HA.out (by unfold OutOk; omega) (by omega) (by omega)).mono ?_
  rintro e we1 ⟨rfl, hb, hk⟩
  rw [S2.out] at hb
  rw [S1.out]
  have HAe1 := Lib.hid hb
  have HKe1 := Lib.hid (Keeps.below HK2.out hk HK2.out.size (by intro k h; subst h; exact HS.out))
  clear hb hk HA HK2
  obtain ⟨m1, m2, m3⟩ := HM2.out (s + a1.tmod 4294967294) (by omega) (by omega)
  by_cases hu0 : 0 ≤ a2
  · by_cases hu1 : a2 ≤ outMay (s + a1.tmod 4294967294)
    · have q1 : outUseOK (s + a1.tmod 4294967294) a2 = true := by simp only [outUseOK, decide_eq_true_eq]; exact ⟨hu0, hu1⟩
      have q2 : outUse (s + a1.tmod 4294967294) a2 = s + a1.tmod 4294967294 - a2 := by rw [outUse, if_pos q1]
      have q3 : -2147483647 ≤ s + a1.tmod 4294967294 - a2 := by have := (show outMay (s + a1.tmod 4294967294) = if s + a1.tmod 4294967294 < 0 then 0 else s + a1.tmod 4294967294 from rfl); split at this <;> omega
      have U1 := Lib.hid q1
      have U2 := Lib.hid q2
      clear q1 q2
      go_wp2_with fail
      refine (may_any _ (s + a1.tmod 4294967294) _ HAe1.out).mono ?_
      rintro e w' ⟨rfl, rfl⟩
      go_wp2_with fail
      refine (use_any _ (s + a1.tmod 4294967294) a2 _ HAe1.out (by unfold OutOk; omega) (by omega) (by omega)).mono ?_
      rintro e we2 ⟨rfl, hb, hk⟩
      rw [U2.out] at hb
      rw [U1.out]
      have HAe2 := Lib.hid hb
      have HKe2 := Lib.hid (Keeps.below HKe1.out hk HKe1.out.size (by intro k h; subst h; exact HS.out))
      clear hb hk HAe1 HKe1
      by_cases hf : 2147483647 - (s + a1.tmod 4294967294 - a2) < 1
      · first
          | (exfalso; omega)
          | (go_wp2_with fail; go_returns; exact ⟨rfl, HKe2.out⟩)
      · have q1 : outGrowOK (s + a1.tmod 4294967294 - a2) (2147483647 - (s + a1.tmod 4294967294 - a2) + 1) = false := by simp only [outGrowOK, decide_eq_false_iff_not]; omega
        have q2 : outGrow (s + a1.tmod 4294967294 - a2) (2147483647 - (s + a1.tmod 4294967294 - a2) + 1) = s + a1.tmod 4294967294 - a2 := by simp [outGrow, q1]
        have q3 : outGrowOK (s + a1.tmod 4294967294 - a2) (2147483647 - (s + a1.tmod 4294967294 - a2)) = true := by simp only [outGrowOK, decide_eq_true_eq]; omega
        have q4 : outGrow (s + a1.tmod 4294967294 - a2) (2147483647 - (s + a1.tmod 4294967294 - a2)) = 2147483647 := by rw [outGrow, q3, if_pos rfl]; omega
        have Q1 := Lib.hid q1
        have Q2 := Lib.hid q2
        have Q3 := Lib.hid q3
        have Q4 := Lib.hid q4
        clear q1 q2 q3 q4
        go_wp2_with fail
        refine (grow_any _ (s + a1.tmod 4294967294 - a2) (2147483647 - (s + a1.tmod 4294967294 - a2) + 1) _ HAe2.out (by unfold OutOk; omega) (by omega) (by omega)).mono ?_
        rintro e we3 ⟨rfl, hb, hk⟩
        rw [Q2.out] at hb
        rw [Q1.out]
        have HAe3 := Lib.hid hb
        have HKe3 := Lib.hid (Keeps.below HKe2.out hk HKe2.out.size (by intro k h; subst h; exact HS.out))
        clear hb hk HAe2 HKe2
        go_wp2_with fail
        refine (grow_any _ (s + a1.tmod 4294967294 - a2) (2147483647 - (s + a1.tmod 4294967294 - a2)) _ HAe3.out (by unfold OutOk; omega) (by omega) (by omega)).mono ?_
        rintro e we4 ⟨rfl, hb, hk⟩
        rw [Q4.out] at hb
        rw [Q3.out]
        have HAe4 := Lib.hid hb
        have HKe4 := Lib.hid (Keeps.below HKe3.out hk HKe3.out.size (by intro k h; subst h; exact HS.out))
        clear hb hk HAe3 HKe3
        go_wp2_with fail
        refine (may_any _ 2147483647 _ HAe4.out).mono ?_
        rintro e w' ⟨rfl, rfl⟩
        rw [show outMay 2147483647 = 2147483647 by decide]
        go_wp2_with fail
        refine (grow_any _ 2147483647 1 _ HAe4.out (by decide) (by omega) (by omega)).mono ?_
        rintro e we5 ⟨rfl, hb, hk⟩
        rw [show outGrow 2147483647 1 = 2147483647 by decide] at hb
        rw [show outGrowOK 2147483647 1 = false by decide]
        have HAe5 := Lib.hid hb
        have HKe5 := Lib.hid (Keeps.below HKe4.out hk HKe4.out.size (by intro k h; subst h; exact HS.out))
        clear hb hk HAe4 HKe4
        go_wp2_with fail
        go_returns
        exact ⟨rfl, HKe5.out⟩
    · have q1 : outUseOK (s + a1.tmod 4294967294) a2 = false := by simp only [outUseOK, decide_eq_false_iff_not]; omega
      have q2 : outUse (s + a1.tmod 4294967294) a2 = s + a1.tmod 4294967294 := by simp [outUse, q1]
      have U1 := Lib.hid q1
      have U2 := Lib.hid q2
      clear q1 q2
      go_wp2_with fail
      refine (may_any _ (s + a1.tmod 4294967294) _ HAe1.out).mono ?_
      rintro e w' ⟨rfl, rfl⟩
      go_wp2_with fail
      refine (use_any _ (s + a1.tmod 4294967294) a2 _ HAe1.out (by unfold OutOk; omega) (by omega) (by omega)).mono ?_
      rintro e we2 ⟨rfl, hb, hk⟩
      rw [U2.out] at hb
      rw [U1.out]
      have HAe2 := Lib.hid hb
      have HKe2 := Lib.hid (Keeps.below HKe1.out hk HKe1.out.size (by intro k h; subst h; exact HS.out))
      clear hb hk HAe1 HKe1
      by_cases hf : 2147483647 - (s + a1.tmod 4294967294) < 1
      · first
          | (exfalso; omega)
          | (go_wp2_with fail; go_returns; exact ⟨rfl, HKe2.out⟩)
      · have q1 : outGrowOK (s + a1.tmod 4294967294) (2147483647 - (s + a1.tmod 4294967294) + 1) = false := by simp only [outGrowOK, decide_eq_false_iff_not]; omega
        have q2 : outGrow (s + a1.tmod 4294967294) (2147483647 - (s + a1.tmod 4294967294) + 1) = s + a1.tmod 4294967294 := by simp [outGrow, q1]
        have q3 : outGrowOK (s + a1.tmod 4294967294) (2147483647 - (s + a1.tmod 4294967294)) = true := by simp only [outGrowOK, decide_eq_true_eq]; omega
        have q4 : outGrow (s + a1.tmod 4294967294) (2147483647 - (s + a1.tmod 4294967294)) = 2147483647 := by rw [outGrow, q3, if_pos rfl]; omega
        have Q1 := Lib.hid q1
        have Q2 := Lib.hid q2
        have Q3 := Lib.hid q3
        have Q4 := Lib.hid q4
        clear q1 q2 q3 q4
        go_wp2_with fail
        refine (grow_any _ (s + a1.tmod 4294967294) (2147483647 - (s + a1.tmod 4294967294) + 1) _ HAe2.out (by unfold OutOk; omega) (by omega) (by omega)).mono ?_
        rintro e we3 ⟨rfl, hb, hk⟩
        rw [Q2.out] at hb
        rw [Q1.out]
        have HAe3 := Lib.hid hb
        have HKe3 := Lib.hid (Keeps.below HKe2.out hk HKe2.out.size (by intro k h; subst h; exact HS.out))
        clear hb hk HAe2 HKe2
        go_wp2_with fail
        refine (grow_any _ (s + a1.tmod 4294967294) (2147483647 - (s + a1.tmod 4294967294)) _ HAe3.out (by unfold OutOk; omega) (by omega) (by omega)).mono ?_
        rintro e we4 ⟨rfl, hb, hk⟩
        rw [Q4.out] at hb
        rw [Q3.out]
        have HAe4 := Lib.hid hb
        have HKe4 := Lib.hid (Keeps.below HKe3.out hk HKe3.out.size (by intro k h; subst h; exact HS.out))
        clear hb hk HAe3 HKe3
        go_wp2_with fail
        refine (may_any _ 2147483647 _ HAe4.out).mono ?_
        rintro e w' ⟨rfl, rfl⟩
        rw [show outMay 2147483647 = 2147483647 by decide]
        go_wp2_with fail
        refine (grow_any _ 2147483647 1 _ HAe4.out (by decide) (by omega) (by omega)).mono ?_
        rintro e we5 ⟨rfl, hb, hk⟩
        rw [show outGrow 2147483647 1 = 2147483647 by decide] at hb
        rw [show outGrowOK 2147483647 1 = false by decide]
        have HAe5 := Lib.hid hb
        have HKe5 := Lib.hid (Keeps.below HKe4.out hk HKe4.out.size (by intro k h; subst h; exact HS.out))
        clear hb hk HAe4 HKe4
        go_wp2_with fail
        go_returns
        exact ⟨rfl, HKe5.out⟩
  · have q1 : outUseOK (s + a1.tmod 4294967294) a2 = false := by simp only [outUseOK, decide_eq_false_iff_not]; omega
    have q2 : outUse (s + a1.tmod 4294967294) a2 = s + a1.tmod 4294967294 := by simp [outUse, q1]
    have U1 := Lib.hid q1
    have U2 := Lib.hid q2
    clear q1 q2
    go_wp2_with fail
    refine (may_any _ (s + a1.tmod 4294967294) _ HAe1.out).mono ?_
    rintro e w' ⟨rfl, rfl⟩
    go_wp2_with fail
    refine (use_any _ (s + a1.tmod 4294967294) a2 _ HAe1.out (by unfold OutOk; omega) (by omega) (by omega)).mono ?_
    rintro e we2 ⟨rfl, hb, hk⟩
    rw [U2.out] at hb
    rw [U1.out]
    have HAe2 := Lib.hid hb
    have HKe2 := Lib.hid (Keeps.below HKe1.out hk HKe1.out.size (by intro k h; subst h; exact HS.out))
    clear hb hk HAe1 HKe1
    by_cases hf : 2147483647 - (s + a1.tmod 4294967294) < 1
    · first
        | (exfalso; omega)
        | (go_wp2_with fail; go_returns; exact ⟨rfl, HKe2.out⟩)
    · have q1 : outGrowOK (s + a1.tmod 4294967294) (2147483647 - (s + a1.tmod 4294967294) + 1) = false := by simp only [outGrowOK, decide_eq_false_iff_not]; omega
      have q2 : outGrow (s + a1.tmod 4294967294) (2147483647 - (s + a1.tmod 4294967294) + 1) = s + a1.tmod 4294967294 := by simp [outGrow, q1]
      have q3 : outGrowOK (s + a1.tmod 4294967294) (2147483647 - (s + a1.tmod 4294967294)) = true := by simp only [outGrowOK, decide_eq_true_eq]; omega
      have q4 : outGrow (s + a1.tmod 4294967294) (2147483647 - (s + a1.tmod 4294967294)) = 2147483647 := by rw [outGrow, q3, if_pos rfl]; omega
      have Q1 := Lib.hid q1
      have Q2 := Lib.hid q2
      have Q3 := Lib.hid q3
      have Q4 := Lib.hid q4
      clear q1 q2 q3 q4
      go_wp2_with fail
      refine (grow_any _ (s + a1.tmod 4294967294) (2147483647 - (s + a1.tmod 4294967294) + 1) _ HAe2.out (by unfold OutOk; omega) (by omega) (by omega)).mono ?_
      rintro e we3 ⟨rfl, hb, hk⟩
      rw [Q2.out] at hb
      rw [Q1.out]
      have HAe3 := Lib.hid hb
      have HKe3 := Lib.hid (Keeps.below HKe2.out hk HKe2.out.size (by intro k h; subst h; exact HS.out))
      clear hb hk HAe2 HKe2
      go_wp2_with fail
      refine (grow_any _ (s + a1.tmod 4294967294) (2147483647 - (s + a1.tmod 4294967294)) _ HAe3.out (by unfold OutOk; omega) (by omega) (by omega)).mono ?_
      rintro e we4 ⟨rfl, hb, hk⟩
      rw [Q4.out] at hb
      rw [Q3.out]
      have HAe4 := Lib.hid hb
      have HKe4 := Lib.hid (Keeps.below HKe3.out hk HKe3.out.size (by intro k h; subst h; exact HS.out))
      clear hb hk HAe3 HKe3
      go_wp2_with fail
      refine (may_any _ 2147483647 _ HAe4.out).mono ?_
      rintro e w' ⟨rfl, rfl⟩
      rw [show outMay 2147483647 = 2147483647 by decide]
      go_wp2_with fail
      refine (grow_any _ 2147483647 1 _ HAe4.out (by decide) (by omega) (by omega)).mono ?_
      rintro e we5 ⟨rfl, hb, hk⟩
      rw [show outGrow 2147483647 1 = 2147483647 by decide] at hb
      rw [show outGrowOK 2147483647 1 = false by decide]
      have HAe5 := Lib.hid hb
      have HKe5 := Lib.hid (Keeps.below HKe4.out hk HKe4.out.size (by intro k h; subst h; exact HS.out))
      clear hb hk HAe4 HKe4
      go_wp2_with fail
      go_returns
      exact ⟨rfl, HKe5.out⟩

set_option maxRecDepth 100000 in
set_option maxHeartbeats 4000000 in
theorem walkWindowEdgesLow (w : World) (a0 : Int) (w0 : (Lit.int .i64 a0).wf = true) (a1 : Int) (w1 : (Lit.int .i64 a1).wf = true) (a2 : Int) (w2 : (Lit.int .i64 a2).wf = true) (hcase : outNew a0 + a1.tmod 4294967294 ≤ 2147483647 ∧ ¬ -2147483647 ≤ outNew a0 + a1.tmod 4294967294) :
    Calls Try.prog 6 #[.int .i64 a0, .int .i64 a1, .int .i64 a2] w fun e w' => e = .returned (.bool true) ∧ Below w.heap.size w w' := by
  obtain ⟨h0, h0'⟩ := wf_i64_iff w0
  obtain ⟨h1, h1'⟩ := wf_i64_iff w1
  obtain ⟨h2, h2'⟩ := wf_i64_iff w2
  clear w0 w1 w2
  obtain ⟨t1, t2⟩ := tmod_bd a1 4294967294 (by omega)
  have hlo : (if a0 < -2147483647 then -2147483647 else a0) = lowV a0 := rfl
  have hst : (if 2147483647 < lowV a0 then 2147483647 else lowV a0) = outNew a0 := rfl
  obtain ⟨s1, s2⟩ := outNew_ok a0
  have hmx : ∀ n : Int, (if n < 0 then 0 else n) = outMay n := fun n => rfl
  have HMX := Lib.hid hmx
  have hm0 := HMX.out (outNew a0)
  have hm1 := HMX.out (outNew a0 + a1.tmod 4294967294)
  have hm2 : ∀ n : Int, -2147483647 ≤ n → n ≤ 2147483647 → 0 ≤ outMay n ∧ outMay n ≤ 2147483647 ∧ n ≤ outMay n := by intro n _ _; unfold outMay; split <;> omega
  have HM2 := Lib.hid hm2
  have HCASE := Lib.hid hcase
  clear hmx hm2 hcase
  go_enter Try.func6, Try.ntmps6
  go_wp2_with fail
  refine (known_any w).mono ?_
  rintro e w1 ⟨rfl, hk⟩
  have HK := Lib.hid hk
  have HS := Lib.hid hk.size
  clear hk
  go_wp2_with fail
  refine (outnew_any a0 _ h0 h0').mono ?_
  rintro e w2 ⟨rfl, hw2⟩
  have HA : Hid (Blk w2 w1.heap.size (outCells (outNew a0)) 45) := by rw [hw2]; exact Blk.new _ _ _
  have HK2 : Hid (Below w.heap.size w w2) := by rw [hw2]; exact HK.out.alloc HK.out.size _
  clear hw2
  go_wp2_with fail
  refine (may_any _ (outNew a0) _ HA.out).mono ?_
  rintro e w' ⟨rfl, rfl⟩
  have hok := HCASE.out
  clear HCASE
  generalize outNew a0 = s at *
  obtain ⟨ok1, ok2⟩ := hok
  have q1 : outShiftOK s (a1.tmod 4294967294) = false := by simp only [outShiftOK, decide_eq_false_iff_not]; omega
  have q2 : outShift s (a1.tmod 4294967294) = s := by simp [outShift, q1]
  have S1 := Lib.hid q1
  have S2 := Lib.hid q2
  clear q1 q2
  go_wp2_with fail
  refine (shift_any _ s (a1.tmod 4294967294) _ HA.out (by unfold OutOk; omega) (by omega) (by omega)).mono ?_
  rintro e we1 ⟨rfl, hb, hk⟩
  rw [S2.out] at hb
  rw [S1.out]
  have HAe1 := Lib.hid hb
  have HKe1 := Lib.hid (Keeps.below HK2.out hk HK2.out.size (by intro k h; subst h; exact HS.out))
  clear hb hk HA HK2
  obtain ⟨m1, m2, m3⟩ := HM2.out (s) (by omega) (by omega)
  by_cases hu0 : 0 ≤ a2
  · by_cases hu1 : a2 ≤ outMay (s)
    · have q1 : outUseOK (s) a2 = true := by simp only [outUseOK, decide_eq_true_eq]; exact ⟨hu0, hu1⟩
      have q2 : outUse (s) a2 = s - a2 := by rw [outUse, if_pos q1]
      have q3 : -2147483647 ≤ s - a2 := by have := (show outMay (s) = if s < 0 then 0 else s from rfl); split at this <;> omega
      have U1 := Lib.hid q1
      have U2 := Lib.hid q2
      clear q1 q2
      go_wp2_with fail
      refine (may_any _ (s) _ HAe1.out).mono ?_
      rintro e w' ⟨rfl, rfl⟩
      go_wp2_with fail
      refine (use_any _ (s) a2 _ HAe1.out (by unfold OutOk; omega) (by omega) (by omega)).mono ?_
      rintro e we2 ⟨rfl, hb, hk⟩
      rw [U2.out] at hb
      rw [U1.out]
      have HAe2 := Lib.hid hb
      have HKe2 := Lib.hid (Keeps.below HKe1.out hk HKe1.out.size (by intro k h; subst h; exact HS.out))
      clear hb hk HAe1 HKe1
      by_cases hf : 2147483647 - (s - a2) < 1
      · first
          | (exfalso; omega)
          | (go_wp2_with fail; go_returns; exact ⟨rfl, HKe2.out⟩)
      · have q1 : outGrowOK (s - a2) (2147483647 - (s - a2) + 1) = false := by simp only [outGrowOK, decide_eq_false_iff_not]; omega
        have q2 : outGrow (s - a2) (2147483647 - (s - a2) + 1) = s - a2 := by simp [outGrow, q1]
        have q3 : outGrowOK (s - a2) (2147483647 - (s - a2)) = true := by simp only [outGrowOK, decide_eq_true_eq]; omega
        have q4 : outGrow (s - a2) (2147483647 - (s - a2)) = 2147483647 := by rw [outGrow, q3, if_pos rfl]; omega
        have Q1 := Lib.hid q1
        have Q2 := Lib.hid q2
        have Q3 := Lib.hid q3
        have Q4 := Lib.hid q4
        clear q1 q2 q3 q4
        go_wp2_with fail
        refine (grow_any _ (s - a2) (2147483647 - (s - a2) + 1) _ HAe2.out (by unfold OutOk; omega) (by omega) (by omega)).mono ?_
        rintro e we3 ⟨rfl, hb, hk⟩
        rw [Q2.out] at hb
        rw [Q1.out]
        have HAe3 := Lib.hid hb
        have HKe3 := Lib.hid (Keeps.below HKe2.out hk HKe2.out.size (by intro k h; subst h; exact HS.out))
        clear hb hk HAe2 HKe2
        go_wp2_with fail
        refine (grow_any _ (s - a2) (2147483647 - (s - a2)) _ HAe3.out (by unfold OutOk; omega) (by omega) (by omega)).mono ?_
        rintro e we4 ⟨rfl, hb, hk⟩
        rw [Q4.out] at hb
        rw [Q3.out]
        have HAe4 := Lib.hid hb
        have HKe4 := Lib.hid (Keeps.below HKe3.out hk HKe3.out.size (by intro k h; subst h; exact HS.out))
        clear hb hk HAe3 HKe3
        go_wp2_with fail
        refine (may_any _ 2147483647 _ HAe4.out).mono ?_
        rintro e w' ⟨rfl, rfl⟩
        rw [show outMay 2147483647 = 2147483647 by decide]
        go_wp2_with fail
        refine (grow_any _ 2147483647 1 _ HAe4.out (by decide) (by omega) (by omega)).mono ?_
        rintro e we5 ⟨rfl, hb, hk⟩
        rw [show outGrow 2147483647 1 = 2147483647 by decide] at hb
        rw [show outGrowOK 2147483647 1 = false by decide]
        have HAe5 := Lib.hid hb
        have HKe5 := Lib.hid (Keeps.below HKe4.out hk HKe4.out.size (by intro k h; subst h; exact HS.out))
        clear hb hk HAe4 HKe4
        go_wp2_with fail
        go_returns
        exact ⟨rfl, HKe5.out⟩
    · have q1 : outUseOK (s) a2 = false := by simp only [outUseOK, decide_eq_false_iff_not]; omega
      have q2 : outUse (s) a2 = s := by simp [outUse, q1]
      have U1 := Lib.hid q1
      have U2 := Lib.hid q2
      clear q1 q2
      go_wp2_with fail
      refine (may_any _ (s) _ HAe1.out).mono ?_
      rintro e w' ⟨rfl, rfl⟩
      go_wp2_with fail
      refine (use_any _ (s) a2 _ HAe1.out (by unfold OutOk; omega) (by omega) (by omega)).mono ?_
      rintro e we2 ⟨rfl, hb, hk⟩
      rw [U2.out] at hb
      rw [U1.out]
      have HAe2 := Lib.hid hb
      have HKe2 := Lib.hid (Keeps.below HKe1.out hk HKe1.out.size (by intro k h; subst h; exact HS.out))
      clear hb hk HAe1 HKe1
      by_cases hf : 2147483647 - (s) < 1
      · first
          | (exfalso; omega)
          | (go_wp2_with fail; go_returns; exact ⟨rfl, HKe2.out⟩)
      · have q1 : outGrowOK (s) (2147483647 - (s) + 1) = false := by simp only [outGrowOK, decide_eq_false_iff_not]; omega
        have q2 : outGrow (s) (2147483647 - (s) + 1) = s := by simp [outGrow, q1]
        have q3 : outGrowOK (s) (2147483647 - (s)) = true := by simp only [outGrowOK, decide_eq_true_eq]; omega
        have q4 : outGrow (s) (2147483647 - (s)) = 2147483647 := by rw [outGrow, q3, if_pos rfl]; omega
        have Q1 := Lib.hid q1
        have Q2 := Lib.hid q2
        have Q3 := Lib.hid q3
        have Q4 := Lib.hid q4
        clear q1 q2 q3 q4
        go_wp2_with fail
        refine (grow_any _ (s) (2147483647 - (s) + 1) _ HAe2.out (by unfold OutOk; omega) (by omega) (by omega)).mono ?_
        rintro e we3 ⟨rfl, hb, hk⟩
        rw [Q2.out] at hb
        rw [Q1.out]
        have HAe3 := Lib.hid hb
        have HKe3 := Lib.hid (Keeps.below HKe2.out hk HKe2.out.size (by intro k h; subst h; exact HS.out))
        clear hb hk HAe2 HKe2
        go_wp2_with fail
        refine (grow_any _ (s) (2147483647 - (s)) _ HAe3.out (by unfold OutOk; omega) (by omega) (by omega)).mono ?_
        rintro e we4 ⟨rfl, hb, hk⟩
        rw [Q4.out] at hb
        rw [Q3.out]
        have HAe4 := Lib.hid hb
        have HKe4 := Lib.hid (Keeps.below HKe3.out hk HKe3.out.size (by intro k h; subst h; exact HS.out))
        clear hb hk HAe3 HKe3
        go_wp2_with fail
        refine (may_any _ 2147483647 _ HAe4.out).mono ?_
        rintro e w' ⟨rfl, rfl⟩
        rw [show outMay 2147483647 = 2147483647 by decide]
        go_wp2_with fail
        refine (grow_any _ 2147483647 1 _ HAe4.out (by decide) (by omega) (by omega)).mono ?_
        rintro e we5 ⟨rfl, hb, hk⟩
        rw [show outGrow 2147483647 1 = 2147483647 by decide] at hb
        rw [show outGrowOK 2147483647 1 = false by decide]
        have HAe5 := Lib.hid hb
        have HKe5 := Lib.hid (Keeps.below HKe4.out hk HKe4.out.size (by intro k h; subst h; exact HS.out))
        clear hb hk HAe4 HKe4
        go_wp2_with fail
        go_returns
        exact ⟨rfl, HKe5.out⟩
  · have q1 : outUseOK (s) a2 = false := by simp only [outUseOK, decide_eq_false_iff_not]; omega
    have q2 : outUse (s) a2 = s := by simp [outUse, q1]
    have U1 := Lib.hid q1
    have U2 := Lib.hid q2
    clear q1 q2
    go_wp2_with fail
    refine (may_any _ (s) _ HAe1.out).mono ?_
    rintro e w' ⟨rfl, rfl⟩
    go_wp2_with fail
    refine (use_any _ (s) a2 _ HAe1.out (by unfold OutOk; omega) (by omega) (by omega)).mono ?_
    rintro e we2 ⟨rfl, hb, hk⟩
    rw [U2.out] at hb
    rw [U1.out]
    have HAe2 := Lib.hid hb
    have HKe2 := Lib.hid (Keeps.below HKe1.out hk HKe1.out.size (by intro k h; subst h; exact HS.out))
    clear hb hk HAe1 HKe1
    by_cases hf : 2147483647 - (s) < 1
    · first
        | (exfalso; omega)
        | (go_wp2_with fail; go_returns; exact ⟨rfl, HKe2.out⟩)
    · have q1 : outGrowOK (s) (2147483647 - (s) + 1) = false := by simp only [outGrowOK, decide_eq_false_iff_not]; omega
      have q2 : outGrow (s) (2147483647 - (s) + 1) = s := by simp [outGrow, q1]
      have q3 : outGrowOK (s) (2147483647 - (s)) = true := by simp only [outGrowOK, decide_eq_true_eq]; omega
      have q4 : outGrow (s) (2147483647 - (s)) = 2147483647 := by rw [outGrow, q3, if_pos rfl]; omega
      have Q1 := Lib.hid q1
      have Q2 := Lib.hid q2
      have Q3 := Lib.hid q3
      have Q4 := Lib.hid q4
      clear q1 q2 q3 q4
      go_wp2_with fail
      refine (grow_any _ (s) (2147483647 - (s) + 1) _ HAe2.out (by unfold OutOk; omega) (by omega) (by omega)).mono ?_
      rintro e we3 ⟨rfl, hb, hk⟩
      rw [Q2.out] at hb
      rw [Q1.out]
      have HAe3 := Lib.hid hb
      have HKe3 := Lib.hid (Keeps.below HKe2.out hk HKe2.out.size (by intro k h; subst h; exact HS.out))
      clear hb hk HAe2 HKe2
      go_wp2_with fail
      refine (grow_any _ (s) (2147483647 - (s)) _ HAe3.out (by unfold OutOk; omega) (by omega) (by omega)).mono ?_
      rintro e we4 ⟨rfl, hb, hk⟩
      rw [Q4.out] at hb
      rw [Q3.out]
      have HAe4 := Lib.hid hb
      have HKe4 := Lib.hid (Keeps.below HKe3.out hk HKe3.out.size (by intro k h; subst h; exact HS.out))
      clear hb hk HAe3 HKe3
      go_wp2_with fail
      refine (may_any _ 2147483647 _ HAe4.out).mono ?_
      rintro e w' ⟨rfl, rfl⟩
      rw [show outMay 2147483647 = 2147483647 by decide]
      go_wp2_with fail
      refine (grow_any _ 2147483647 1 _ HAe4.out (by decide) (by omega) (by omega)).mono ?_
      rintro e we5 ⟨rfl, hb, hk⟩
      rw [show outGrow 2147483647 1 = 2147483647 by decide] at hb
      rw [show outGrowOK 2147483647 1 = false by decide]
      have HAe5 := Lib.hid hb
      have HKe5 := Lib.hid (Keeps.below HKe4.out hk HKe4.out.size (by intro k h; subst h; exact HS.out))
      clear hb hk HAe4 HKe4
      go_wp2_with fail
      go_returns
      exact ⟨rfl, HKe5.out⟩

set_option maxRecDepth 100000 in
set_option maxHeartbeats 4000000 in
theorem walkWindowEdgesHigh (w : World) (a0 : Int) (w0 : (Lit.int .i64 a0).wf = true) (a1 : Int) (w1 : (Lit.int .i64 a1).wf = true) (a2 : Int) (w2 : (Lit.int .i64 a2).wf = true) (hcase : ¬ outNew a0 + a1.tmod 4294967294 ≤ 2147483647) :
    Calls Try.prog 6 #[.int .i64 a0, .int .i64 a1, .int .i64 a2] w fun e w' => e = .returned (.bool true) ∧ Below w.heap.size w w' := by
  obtain ⟨h0, h0'⟩ := wf_i64_iff w0
  obtain ⟨h1, h1'⟩ := wf_i64_iff w1
  obtain ⟨h2, h2'⟩ := wf_i64_iff w2
  clear w0 w1 w2
  obtain ⟨t1, t2⟩ := tmod_bd a1 4294967294 (by omega)
  have hlo : (if a0 < -2147483647 then -2147483647 else a0) = lowV a0 := rfl
  have hst : (if 2147483647 < lowV a0 then 2147483647 else lowV a0) = outNew a0 := rfl
  obtain ⟨s1, s2⟩ := outNew_ok a0
  have hmx : ∀ n : Int, (if n < 0 then 0 else n) = outMay n := fun n => rfl
  have HMX := Lib.hid hmx
  have hm0 := HMX.out (outNew a0)
  have hm1 := HMX.out (outNew a0 + a1.tmod 4294967294)
  have hm2 : ∀ n : Int, -2147483647 ≤ n → n ≤ 2147483647 → 0 ≤ outMay n ∧ outMay n ≤ 2147483647 ∧ n ≤ outMay n := by intro n _ _; unfold outMay; split <;> omega
  have HM2 := Lib.hid hm2
  have HCASE := Lib.hid hcase
  clear hmx hm2 hcase
  go_enter Try.func6, Try.ntmps6
  go_wp2_with fail
  refine (known_any w).mono ?_
  rintro e w1 ⟨rfl, hk⟩
  have HK := Lib.hid hk
  have HS := Lib.hid hk.size
  clear hk
  go_wp2_with fail
  refine (outnew_any a0 _ h0 h0').mono ?_
  rintro e w2 ⟨rfl, hw2⟩
  have HA : Hid (Blk w2 w1.heap.size (outCells (outNew a0)) 45) := by rw [hw2]; exact Blk.new _ _ _
  have HK2 : Hid (Below w.heap.size w w2) := by rw [hw2]; exact HK.out.alloc HK.out.size _
  clear hw2
  go_wp2_with fail
  refine (may_any _ (outNew a0) _ HA.out).mono ?_
  rintro e w' ⟨rfl, rfl⟩
  have hok := HCASE.out
  clear HCASE
  generalize outNew a0 = s at *
  have q1 : outShiftOK s (a1.tmod 4294967294) = false := by simp only [outShiftOK, decide_eq_false_iff_not]; omega
  have q2 : outShift s (a1.tmod 4294967294) = s := by simp [outShift, q1]
  have S1 := Lib.hid q1
  have S2 := Lib.hid q2
  clear q1 q2
  go_wp2_with fail
  refine (shift_any _ s (a1.tmod 4294967294) _ HA.out (by unfold OutOk; omega) (by omega) (by omega)).mono ?_
  rintro e we1 ⟨rfl, hb, hk⟩
  rw [S2.out] at hb
  rw [S1.out]
  have HAe1 := Lib.hid hb
  have HKe1 := Lib.hid (Keeps.below HK2.out hk HK2.out.size (by intro k h; subst h; exact HS.out))
  clear hb hk HA HK2
  obtain ⟨m1, m2, m3⟩ := HM2.out (s) (by omega) (by omega)
  by_cases hu0 : 0 ≤ a2
  · by_cases hu1 : a2 ≤ outMay (s)
    · have q1 : outUseOK (s) a2 = true := by simp only [outUseOK, decide_eq_true_eq]; exact ⟨hu0, hu1⟩
      have q2 : outUse (s) a2 = s - a2 := by rw [outUse, if_pos q1]
      have q3 : -2147483647 ≤ s - a2 := by have := (show outMay (s) = if s < 0 then 0 else s from rfl); split at this <;> omega
      have U1 := Lib.hid q1
      have U2 := Lib.hid q2
      clear q1 q2
      go_wp2_with fail
      refine (may_any _ (s) _ HAe1.out).mono ?_
      rintro e w' ⟨rfl, rfl⟩
      go_wp2_with fail
      refine (use_any _ (s) a2 _ HAe1.out (by unfold OutOk; omega) (by omega) (by omega)).mono ?_
      rintro e we2 ⟨rfl, hb, hk⟩
      rw [U2.out] at hb
      rw [U1.out]
      have HAe2 := Lib.hid hb
      have HKe2 := Lib.hid (Keeps.below HKe1.out hk HKe1.out.size (by intro k h; subst h; exact HS.out))
      clear hb hk HAe1 HKe1
      by_cases hf : 2147483647 - (s - a2) < 1
      · first
          | (exfalso; omega)
          | (go_wp2_with fail; go_returns; exact ⟨rfl, HKe2.out⟩)
      · have q1 : outGrowOK (s - a2) (2147483647 - (s - a2) + 1) = false := by simp only [outGrowOK, decide_eq_false_iff_not]; omega
        have q2 : outGrow (s - a2) (2147483647 - (s - a2) + 1) = s - a2 := by simp [outGrow, q1]
        have q3 : outGrowOK (s - a2) (2147483647 - (s - a2)) = true := by simp only [outGrowOK, decide_eq_true_eq]; omega
        have q4 : outGrow (s - a2) (2147483647 - (s - a2)) = 2147483647 := by rw [outGrow, q3, if_pos rfl]; omega
        have Q1 := Lib.hid q1
        have Q2 := Lib.hid q2
        have Q3 := Lib.hid q3
        have Q4 := Lib.hid q4
        clear q1 q2 q3 q4
        go_wp2_with fail
        refine (grow_any _ (s - a2) (2147483647 - (s - a2) + 1) _ HAe2.out (by unfold OutOk; omega) (by omega) (by omega)).mono ?_
        rintro e we3 ⟨rfl, hb, hk⟩
        rw [Q2.out] at hb
        rw [Q1.out]
        have HAe3 := Lib.hid hb
        have HKe3 := Lib.hid (Keeps.below HKe2.out hk HKe2.out.size (by intro k h; subst h; exact HS.out))
        clear hb hk HAe2 HKe2
        go_wp2_with fail
        refine (grow_any _ (s - a2) (2147483647 - (s - a2)) _ HAe3.out (by unfold OutOk; omega) (by omega) (by omega)).mono ?_
        rintro e we4 ⟨rfl, hb, hk⟩
        rw [Q4.out] at hb
        rw [Q3.out]
        have HAe4 := Lib.hid hb
        have HKe4 := Lib.hid (Keeps.below HKe3.out hk HKe3.out.size (by intro k h; subst h; exact HS.out))
        clear hb hk HAe3 HKe3
        go_wp2_with fail
        refine (may_any _ 2147483647 _ HAe4.out).mono ?_
        rintro e w' ⟨rfl, rfl⟩
        rw [show outMay 2147483647 = 2147483647 by decide]
        go_wp2_with fail
        refine (grow_any _ 2147483647 1 _ HAe4.out (by decide) (by omega) (by omega)).mono ?_
        rintro e we5 ⟨rfl, hb, hk⟩
        rw [show outGrow 2147483647 1 = 2147483647 by decide] at hb
        rw [show outGrowOK 2147483647 1 = false by decide]
        have HAe5 := Lib.hid hb
        have HKe5 := Lib.hid (Keeps.below HKe4.out hk HKe4.out.size (by intro k h; subst h; exact HS.out))
        clear hb hk HAe4 HKe4
        go_wp2_with fail
        go_returns
        exact ⟨rfl, HKe5.out⟩
    · have q1 : outUseOK (s) a2 = false := by simp only [outUseOK, decide_eq_false_iff_not]; omega
      have q2 : outUse (s) a2 = s := by simp [outUse, q1]
      have U1 := Lib.hid q1
      have U2 := Lib.hid q2
      clear q1 q2
      go_wp2_with fail
      refine (may_any _ (s) _ HAe1.out).mono ?_
      rintro e w' ⟨rfl, rfl⟩
      go_wp2_with fail
      refine (use_any _ (s) a2 _ HAe1.out (by unfold OutOk; omega) (by omega) (by omega)).mono ?_
      rintro e we2 ⟨rfl, hb, hk⟩
      rw [U2.out] at hb
      rw [U1.out]
      have HAe2 := Lib.hid hb
      have HKe2 := Lib.hid (Keeps.below HKe1.out hk HKe1.out.size (by intro k h; subst h; exact HS.out))
      clear hb hk HAe1 HKe1
      by_cases hf : 2147483647 - (s) < 1
      · first
          | (exfalso; omega)
          | (go_wp2_with fail; go_returns; exact ⟨rfl, HKe2.out⟩)
      · have q1 : outGrowOK (s) (2147483647 - (s) + 1) = false := by simp only [outGrowOK, decide_eq_false_iff_not]; omega
        have q2 : outGrow (s) (2147483647 - (s) + 1) = s := by simp [outGrow, q1]
        have q3 : outGrowOK (s) (2147483647 - (s)) = true := by simp only [outGrowOK, decide_eq_true_eq]; omega
        have q4 : outGrow (s) (2147483647 - (s)) = 2147483647 := by rw [outGrow, q3, if_pos rfl]; omega
        have Q1 := Lib.hid q1
        have Q2 := Lib.hid q2
        have Q3 := Lib.hid q3
        have Q4 := Lib.hid q4
        clear q1 q2 q3 q4
        go_wp2_with fail
        refine (grow_any _ (s) (2147483647 - (s) + 1) _ HAe2.out (by unfold OutOk; omega) (by omega) (by omega)).mono ?_
        rintro e we3 ⟨rfl, hb, hk⟩
        rw [Q2.out] at hb
        rw [Q1.out]
        have HAe3 := Lib.hid hb
        have HKe3 := Lib.hid (Keeps.below HKe2.out hk HKe2.out.size (by intro k h; subst h; exact HS.out))
        clear hb hk HAe2 HKe2
        go_wp2_with fail
        refine (grow_any _ (s) (2147483647 - (s)) _ HAe3.out (by unfold OutOk; omega) (by omega) (by omega)).mono ?_
        rintro e we4 ⟨rfl, hb, hk⟩
        rw [Q4.out] at hb
        rw [Q3.out]
        have HAe4 := Lib.hid hb
        have HKe4 := Lib.hid (Keeps.below HKe3.out hk HKe3.out.size (by intro k h; subst h; exact HS.out))
        clear hb hk HAe3 HKe3
        go_wp2_with fail
        refine (may_any _ 2147483647 _ HAe4.out).mono ?_
        rintro e w' ⟨rfl, rfl⟩
        rw [show outMay 2147483647 = 2147483647 by decide]
        go_wp2_with fail
        refine (grow_any _ 2147483647 1 _ HAe4.out (by decide) (by omega) (by omega)).mono ?_
        rintro e we5 ⟨rfl, hb, hk⟩
        rw [show outGrow 2147483647 1 = 2147483647 by decide] at hb
        rw [show outGrowOK 2147483647 1 = false by decide]
        have HAe5 := Lib.hid hb
        have HKe5 := Lib.hid (Keeps.below HKe4.out hk HKe4.out.size (by intro k h; subst h; exact HS.out))
        clear hb hk HAe4 HKe4
        go_wp2_with fail
        go_returns
        exact ⟨rfl, HKe5.out⟩
  · have q1 : outUseOK (s) a2 = false := by simp only [outUseOK, decide_eq_false_iff_not]; omega
    have q2 : outUse (s) a2 = s := by simp [outUse, q1]
    have U1 := Lib.hid q1
    have U2 := Lib.hid q2
    clear q1 q2
    go_wp2_with fail
    refine (may_any _ (s) _ HAe1.out).mono ?_
    rintro e w' ⟨rfl, rfl⟩
    go_wp2_with fail
    refine (use_any _ (s) a2 _ HAe1.out (by unfold OutOk; omega) (by omega) (by omega)).mono ?_
    rintro e we2 ⟨rfl, hb, hk⟩
    rw [U2.out] at hb
    rw [U1.out]
    have HAe2 := Lib.hid hb
    have HKe2 := Lib.hid (Keeps.below HKe1.out hk HKe1.out.size (by intro k h; subst h; exact HS.out))
    clear hb hk HAe1 HKe1
    by_cases hf : 2147483647 - (s) < 1
    · first
        | (exfalso; omega)
        | (go_wp2_with fail; go_returns; exact ⟨rfl, HKe2.out⟩)
    · have q1 : outGrowOK (s) (2147483647 - (s) + 1) = false := by simp only [outGrowOK, decide_eq_false_iff_not]; omega
      have q2 : outGrow (s) (2147483647 - (s) + 1) = s := by simp [outGrow, q1]
      have q3 : outGrowOK (s) (2147483647 - (s)) = true := by simp only [outGrowOK, decide_eq_true_eq]; omega
      have q4 : outGrow (s) (2147483647 - (s)) = 2147483647 := by rw [outGrow, q3, if_pos rfl]; omega
      have Q1 := Lib.hid q1
      have Q2 := Lib.hid q2
      have Q3 := Lib.hid q3
      have Q4 := Lib.hid q4
      clear q1 q2 q3 q4
      go_wp2_with fail
      refine (grow_any _ (s) (2147483647 - (s) + 1) _ HAe2.out (by unfold OutOk; omega) (by omega) (by omega)).mono ?_
      rintro e we3 ⟨rfl, hb, hk⟩
      rw [Q2.out] at hb
      rw [Q1.out]
      have HAe3 := Lib.hid hb
      have HKe3 := Lib.hid (Keeps.below HKe2.out hk HKe2.out.size (by intro k h; subst h; exact HS.out))
      clear hb hk HAe2 HKe2
      go_wp2_with fail
      refine (grow_any _ (s) (2147483647 - (s)) _ HAe3.out (by unfold OutOk; omega) (by omega) (by omega)).mono ?_
      rintro e we4 ⟨rfl, hb, hk⟩
      rw [Q4.out] at hb
      rw [Q3.out]
      have HAe4 := Lib.hid hb
      have HKe4 := Lib.hid (Keeps.below HKe3.out hk HKe3.out.size (by intro k h; subst h; exact HS.out))
      clear hb hk HAe3 HKe3
      go_wp2_with fail
      refine (may_any _ 2147483647 _ HAe4.out).mono ?_
      rintro e w' ⟨rfl, rfl⟩
      rw [show outMay 2147483647 = 2147483647 by decide]
      go_wp2_with fail
      refine (grow_any _ 2147483647 1 _ HAe4.out (by decide) (by omega) (by omega)).mono ?_
      rintro e we5 ⟨rfl, hb, hk⟩
      rw [show outGrow 2147483647 1 = 2147483647 by decide] at hb
      rw [show outGrowOK 2147483647 1 = false by decide]
      have HAe5 := Lib.hid hb
      have HKe5 := Lib.hid (Keeps.below HKe4.out hk HKe4.out.size (by intro k h; subst h; exact HS.out))
      clear hb hk HAe4 HKe4
      go_wp2_with fail
      go_returns
      exact ⟨rfl, HKe5.out⟩

theorem walkWindowEdges (w : World) (a0 : Int) (w0 : (Lit.int .i64 a0).wf = true) (a1 : Int) (w1 : (Lit.int .i64 a1).wf = true) (a2 : Int) (w2 : (Lit.int .i64 a2).wf = true) :
    Calls Try.prog 6 #[.int .i64 a0, .int .i64 a1, .int .i64 a2] w fun e w' => e = .returned (.bool true) ∧ Below w.heap.size w w' := by
  by_cases h1 : outNew a0 + a1.tmod 4294967294 ≤ 2147483647
  · by_cases h2 : -2147483647 ≤ outNew a0 + a1.tmod 4294967294
    · exact walkWindowEdgesYes w a0 w0 a1 w1 a2 w2 ⟨h1, h2⟩
    · exact walkWindowEdgesLow w a0 w0 a1 w1 a2 w2 ⟨h1, h2⟩
  · exact walkWindowEdgesHigh w a0 w0 a1 w1 a2 w2 h1

end Go.Proofs.Ytnecdcnokihgoaa
