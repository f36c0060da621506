/- The chapter's example; a script's numbers. -/
import Derived.Test.YtnecdcnokihgoaaWinA
namespace Go.Proofs.Ytnecdcnokihgoaa
open Go.RowKit

def nearV (q m : Int) : Int := if q / 8 % 4 = 0 then m else if q / 8 % 4 = 1 then m.tmod 300 else m.tmod 2147483648

theorem nearV_bd (q m : Int) (h0 : -9223372036854775808 ≤ m) (h1 : m ≤ 9223372036854775807) : -9223372036854775808 ≤ nearV q m ∧ nearV q m ≤ 9223372036854775807 := by
  have a := tmod_bd m 300 (by omega)
  have b := tmod_bd m 2147483648 (by omega)
  unfold nearV
  split
  · omega
  · split <;> omega

set_option maxHeartbeats 400000 in
theorem near_any (q m : Int) (w : World) (h0 : 0 ≤ q) (h1 : q ≤ 255) :
    Calls Try.prog 11 #[.agg #[.int .u8 q, .int .i64 m]] w fun e w' => e = .returned (.int .i64 (nearV q m)) ∧ w' = w.alloc (.cells #[.int .u8 q, .int .i64 m] 29 (0, 0)) := by
  by_cases h2 : q / 8 % 4 = 0
  · have hq : (q / 8 % 4 == 0) = true := by simp [h2]
    have HE : Hid (nearV q m = m) := by show _ = _; simp [nearV, h2]
    clear h2
    go_enter Try.func11, Try.ntmps11
    go_wp2
    go_returns
    exact ⟨by rw [HE.out]; rfl, rfl⟩
  · have hq : (q / 8 % 4 == 0) = false := by simp [h2]
    by_cases h3 : q / 8 % 4 = 1
    · have hq3 : (q / 8 % 4 == 1) = true := by simp [h3]
      have HE : Hid (nearV q m = m.tmod 300) := by show _ = _; simp [nearV, h3]
      clear h2 h3
      go_enter Try.func11, Try.ntmps11
      go_wp2
      go_returns
      exact ⟨by rw [HE.out]; rfl, rfl⟩
    · have hq3 : (q / 8 % 4 == 1) = false := by simp [h3]
      have HE : Hid (nearV q m = m.tmod 2147483648) := by show _ = _; simp [nearV, h2, h3]
      clear h2 h3
      go_enter Try.func11, Try.ntmps11
      go_wp2
      go_returns
      exact ⟨by rw [HE.out]; rfl, rfl⟩

set_option maxHeartbeats 1000000 in
theorem known_any (w : World) :
    Calls Try.prog 8 #[] w fun e w' => e = .returned (.bool true) ∧ Below w.heap.size w w' := by
  go_enter Try.func8, Try.ntmps8
  go_wp2_with fail
  refine (outnew_any 5 _ (by omega) (by omega)).mono ?_
  rintro e w1 ⟨rfl, hw1⟩
  have HO : Hid (Blk w1 w.heap.size (outCells 5) 45) := by rw [hw1]; exact Blk.new _ _ _
  have HK0 : Hid (Below w.heap.size w w1) := by rw [hw1]; exact (Below.refl _ _).alloc (Nat.le_refl _) _
  have hsz : w1.heap.size = w.heap.size + 1 := by rw [hw1]; simp
  clear hw1
  go_wp2_with fail
  refine (innew_any 4 _).mono ?_
  rintro e w2 ⟨rfl, hw2⟩
  have HO2 : Hid (Blk w2 w.heap.size (outCells 5) 45) := by rw [hw2]; exact HO.out.alloc _
  have HI2 : Hid (Blk w2 (w.heap.size + 1) (IN.cells ⟨4, 4, 0, 0⟩) 49) := by rw [hw2, ← hsz]; exact Blk.new _ _ _
  have HK2 : Hid (Below w.heap.size w w2) := by rw [hw2]; exact HK0.out.alloc HK0.out.size _
  rw [hsz]
  clear hw2 hsz HO HK0
  go_wp2_with fail
  refine (use_any _ 5 3 _ HO2.out (by decide) (by omega) (by omega)).mono ?_
  rintro e wk1 ⟨rfl, hb, hk⟩
  rw [show outUse 5 3 = 2 from (by decide)] at hb
  rw [show outUseOK 5 3 = true from (by decide)]
  have HOk1 := Lib.hid hb
  have HIk1 := Lib.hid (hk.blk HI2.out (by omega))
  have HKk1 := Lib.hid (Keeps.below HK2.out hk HK2.out.size (by intro k h; subst h; omega))
  clear hb hk HO2 HI2 HK2
  go_wp2_with fail
  refine (may_any _ 2 _ HOk1.out).mono ?_
  rintro e w' ⟨rfl, rfl⟩
  rw [show outMay 2 = 2 from (by decide)]
  go_wp2_with fail
  refine (use_any _ 2 3 _ HOk1.out (by decide) (by omega) (by omega)).mono ?_
  rintro e wk2 ⟨rfl, hb, hk⟩
  rw [show outUse 2 3 = 2 from (by decide)] at hb
  rw [show outUseOK 2 3 = false from (by decide)]
  have HOk2 := Lib.hid hb
  have HIk2 := Lib.hid (hk.blk HIk1.out (by omega))
  have HKk2 := Lib.hid (Keeps.below HKk1.out hk HKk1.out.size (by intro k h; subst h; omega))
  clear hb hk HOk1 HIk1 HKk1
  go_wp2_with fail
  refine (grow_any _ 2 1 _ HOk2.out (by decide) (by omega) (by omega)).mono ?_
  rintro e wk3 ⟨rfl, hb, hk⟩
  rw [show outGrow 2 1 = 3 from (by decide)] at hb
  rw [show outGrowOK 2 1 = true from (by decide)]
  have HOk3 := Lib.hid hb
  have HIk3 := Lib.hid (hk.blk HIk2.out (by omega))
  have HKk3 := Lib.hid (Keeps.below HKk2.out hk HKk2.out.size (by intro k h; subst h; omega))
  clear hb hk HOk2 HIk2 HKk2
  go_wp2_with fail
  refine (shift_any _ 3 (-9) _ HOk3.out (by decide) (by omega) (by omega)).mono ?_
  rintro e wk4 ⟨rfl, hb, hk⟩
  rw [show outShift 3 (-9) = -6 from (by decide)] at hb
  rw [show outShiftOK 3 (-9) = true from (by decide)]
  have HOk4 := Lib.hid hb
  have HIk4 := Lib.hid (hk.blk HIk3.out (by omega))
  have HKk4 := Lib.hid (Keeps.below HKk3.out hk HKk3.out.size (by intro k h; subst h; omega))
  clear hb hk HOk3 HIk3 HKk3
  go_wp2_with fail
  refine (may_any _ (-6) _ HOk4.out).mono ?_
  rintro e w' ⟨rfl, rfl⟩
  rw [show outMay (-6) = 0 from (by decide)]
  go_wp2_with fail
  refine (take_any _ (⟨4, 4, 0, 0⟩ : IN) 3 _ HIk4.out (by decide) (by omega) (by omega)).mono ?_
  rintro e wk5 ⟨rfl, hb, hk⟩
  rw [show IN.take (⟨4, 4, 0, 0⟩ : IN) 3 = (⟨4, 1, 3, 0⟩ : IN) from (by decide)] at hb
  rw [show IN.takeOK (⟨4, 4, 0, 0⟩ : IN) 3 = true from (by decide)]
  have HIk5 := Lib.hid hb
  have HOk5 := Lib.hid (hk.blk HOk4.out (by omega))
  have HKk5 := Lib.hid (Keeps.below HKk4.out hk HKk4.out.size (by intro k h; subst h; omega))
  clear hb hk HOk4 HIk4 HKk4
  go_wp2_with fail
  refine (take_any _ (⟨4, 1, 3, 0⟩ : IN) 2 _ HIk5.out (by decide) (by omega) (by omega)).mono ?_
  rintro e wk6 ⟨rfl, hb, hk⟩
  rw [show IN.take (⟨4, 1, 3, 0⟩ : IN) 2 = (⟨4, 1, 3, 0⟩ : IN) from (by decide)] at hb
  rw [show IN.takeOK (⟨4, 1, 3, 0⟩ : IN) 2 = false from (by decide)]
  have HIk6 := Lib.hid hb
  have HOk6 := Lib.hid (hk.blk HOk5.out (by omega))
  have HKk6 := Lib.hid (Keeps.below HKk5.out hk HKk5.out.size (by intro k h; subst h; omega))
  clear hb hk HOk5 HIk5 HKk5
  go_wp2_with fail
  refine (done_any _ (⟨4, 1, 3, 0⟩ : IN) 2 _ HIk6.out (by decide) (by omega) (by omega)).mono ?_
  rintro e wk7 ⟨rfl, hb, hk⟩
  rw [show IN.done (⟨4, 1, 3, 0⟩ : IN) 2 = (⟨4, 3, 1, 0⟩ : IN) from (by decide)] at hb
  rw [show IN.gave (⟨4, 1, 3, 0⟩ : IN) 2 = 2 from (by decide)]
  have HIk7 := Lib.hid hb
  have HOk7 := Lib.hid (hk.blk HOk6.out (by omega))
  have HKk7 := Lib.hid (Keeps.below HKk6.out hk HKk6.out.size (by intro k h; subst h; omega))
  clear hb hk HOk6 HIk6 HKk6
  go_wp2_with fail
  refine (left_any _ (⟨4, 3, 1, 0⟩ : IN) _ HIk7.out).mono ?_
  rintro e w' ⟨rfl, rfl⟩
  go_wp2
  go_returns
  exact ⟨rfl, HKk7.out⟩

theorem act_of {w : World} {v : Value} (hv : Arg Try.prog w 22 v) :
    ∃ (a : Option Addr) (len cap : Nat) (V : Nat → Nat → Value), v = .slice a len cap ∧ len ≤ cap ∧ cap ≤ maxLen ∧ Seen w a cap 2 V ∧
      ∀ i, i < cap → ∃ q m, V i 0 = .int .u8 q ∧ V i 1 = .int .i64 m ∧ (0 ≤ q ∧ q ≤ 255) ∧ (-9223372036854775808 ≤ m ∧ m ≤ 9223372036854775807) := by
  obtain ⟨a, len, cap, V, h1, h2, h3, h4, h5⟩ := (hv.rd_slice Try.underlying22).slice Try.underlying22 Try.underlying29 (by kernel_rfl) (by kernel_rfl) (by decide)
  refine ⟨a, len, cap, V, h1, h2, h3, h4, fun i hi => ?_⟩
  obtain ⟨q, hq, hqw⟩ := (h5 i 0 _ hi rfl).int Try.underlying5
  obtain ⟨m, hm, hmw⟩ := (h5 i 1 _ hi rfl).int Try.underlying2
  exact ⟨q, m, hq, hm, wf_u8_iff hqw, wf_i64_iff hmw⟩

theorem outUse_ok {n : Int} (h : OutOk n) (k : Int) : OutOk (outUse n k) := by
  unfold outUse; split
  · rename_i hk; unfold OutOk at *; by_cases hn : n < 0 <;> simp [outUseOK, outMay, hn] at hk <;> omega
  · exact h
theorem outGrow_ok {n : Int} (h : OutOk n) (k : Int) : OutOk (outGrow n k) := by
  unfold outGrow; split
  · rename_i hk; simp only [outGrowOK, decide_eq_true_eq] at hk; unfold OutOk at *; omega
  · exact h
theorem outShift_ok {n : Int} (h : OutOk n) (k : Int) : OutOk (outShift n k) := by
  unfold outShift; split
  · rename_i hk; simp only [outShiftOK, decide_eq_true_eq] at hk; unfold OutOk at *; omega
  · exact h

end Go.Proofs.Ytnecdcnokihgoaa
