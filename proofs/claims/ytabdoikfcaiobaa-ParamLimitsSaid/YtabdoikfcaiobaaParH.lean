/- Which parameters may be said: number, right, Check, Int of the package qparam. -/
import Derived.Test.YtabdoikfcaiobaaParG
namespace Go.Proofs.Ytabdoikfcaiobaa
open Go.RowKit Go.Deep Go.Maps

/-- Is it just one number? -/
def pnB (xs : List UInt8) : Bool := rvE xs == 0 && rvL xs == (xs.length : Int)
def pnV (xs : List UInt8) : Int := if pnB xs then rvV xs else 0

set_option maxHeartbeats 800000 in
theorem pnumber_any (t : Int) (a : Option Addr) (n c : Nat) (xs : List UInt8) (w : World) (hb : By w a n c xs) :
    Calls Try.prog 25 #[.agg #[.int .u64 t, .slice a n c]] w fun e w' => e = .returned (.tuple #[.int .u64 (pnV xs), .bool (pnB xs)]) ∧ Below w.heap.size w w' := by
  have HB := Lib.hid (hb.alloc (.cells #[.int .u64 t, .slice a n c] 42 (0, 0)))
  have HN := Lib.hid hb.1
  have HK := Lib.hid ((Below.refl w.heap.size w).alloc (Nat.le_refl _) (.cells #[.int .u64 t, .slice a n c] 42 (0, 0)))
  clear hb
  obtain ⟨r, hr⟩ : ∃ r, pnB xs = r := ⟨_, rfl⟩
  obtain ⟨v, hv⟩ : ∃ v, pnV xs = v := ⟨_, rfl⟩
  rw [hr, hv]
  unfold pnB at hr
  unfold pnV pnB at hv
  have HR := Lib.hid hr
  have HV := Lib.hid hv
  clear hr hv
  go_enter Try.func25, Try.ntmps25
  go_wp2_with fail
  refine (readvar_any a n c xs _ HB.out).mono ?_
  rintro e w' ⟨rfl, rfl⟩
  by_cases h1 : rvE xs = 0
  · by_cases h2 : rvL xs = (n : Int)
    · have HE : Hid (r = true ∧ v = rvV xs) := Lib.hid (by
        rw [← HR.out, ← HV.out, h1, h2, HN.out]; simp)
      rw [h1, h2]
      clear h1 h2
      generalize rvV xs = vv at *
      go_wp2_with fail
      go_returns
      rw [HE.out.1, HE.out.2]
      exact ⟨rfl, HK.out⟩
    · have HE : Hid (r = false ∧ v = 0) := Lib.hid (by
        have hf : (rvL xs == (xs.length : Int)) = false := by rw [← HN.out]; simpa using h2
        rw [← HR.out, ← HV.out, hf]; simp)
      have h2' : (rvL xs != (n : Int)) = true := by simpa using h2
      rw [h1]
      clear h1 h2
      generalize rvV xs = vv at *
      generalize rvL xs = ll at *
      go_wp2_with fail
      go_returns
      rw [HE.out.1, HE.out.2]
      exact ⟨rfl, HK.out⟩
  · have HE : Hid (r = false ∧ v = 0) := Lib.hid (by
      have hf : (rvE xs == 0) = false := by simpa using h1
      rw [← HR.out, ← HV.out, hf]; simp)
    have h1' : (rvE xs != 0) = true := by simpa using h1
    clear h1
    generalize rvV xs = vv at *
    generalize rvL xs = ll at *
    generalize rvE xs = ee at *
    go_wp2_with fail
    go_returns
    rw [HE.out.1, HE.out.2]
    exact ⟨rfl, HK.out⟩

/-- May a parameter be so? -/
def rightB (t : Int) (xs : List UInt8) (srv : Bool) : Bool :=
  if t = 0 ∨ t = 2 ∨ t = 13 ∨ t = 16 then srv
  else if t = 3 then pnB xs && decide (1200 ≤ pnV xs)
  else if t = 8 ∨ t = 9 then pnB xs && decide (pnV xs ≤ 1152921504606846976)
  else if t = 10 then pnB xs && decide (pnV xs ≤ 20)
  else if t = 11 then pnB xs && decide (pnV xs < 16384)
  else if t = 14 then pnB xs && decide (2 ≤ pnV xs)
  else if t = 1 ∨ t = 4 ∨ t = 5 ∨ t = 6 ∨ t = 7 then pnB xs
  else if t = 12 then decide (xs.length = 0)
  else true

set_option maxHeartbeats 3200000 in
theorem right_any (t : Int) (a : Option Addr) (n c : Nat) (xs : List UInt8) (srv : Bool) (w : World) (hb : By w a n c xs) (r : Bool) (hr : Hid (rightB t xs srv = r)) :
    Calls Try.prog 22 #[.agg #[.int .u64 t, .slice a n c], .bool srv] w fun e w' => e = .returned (.bool r) ∧ Below w.heap.size w w' := by
  have HB := Lib.hid (hb.alloc (.cells #[.int .u64 t, .slice a n c] 42 (0, 0)))
  have HF := Lib.hid (Blk.new w #[.int .u64 t, .slice a n c] 42)
  have HK := Lib.hid ((Below.refl w.heap.size w).alloc (Nat.le_refl _) (.cells #[.int .u64 t, .slice a n c] 42 (0, 0)))
  have HLN : Hid ((n : Int) = (xs.length : Int)) := Lib.hid (by rw [hb.1])
  clear hb
  go_enter Try.func22, Try.ntmps22
  go_wp2_with fail
  refine (pnumber_any t a n c xs _ HB.out).mono ?_
  rintro e w1 ⟨rfl, hk1⟩
  have HF1 := Lib.hid ((Below.keeps hk1).blk HF.out (by simp))
  have HK1 := Lib.hid (HK.out.trans (hk1.mono HK.out.size))
  clear hk1
  obtain ⟨⟨f0, f1⟩, _⟩ := two_cells HF1.out
  unfold rightB at hr
  have hln : decide (xs.length = 0) = ((n : Int) == 0) := by rw [HLN.out, Bool.eq_iff_iff]; simp
  rw [hln] at hr
  clear hln
  generalize pnV xs = v at *
  generalize pnB xs = p at *
  cases p
  all_goals
    go_wp2_with fail
    all_goals go_returns
    all_goals (refine ⟨?_, HK1.out⟩; rw [← hr.out]; simp_all)

end Go.Proofs.Ytabdoikfcaiobaa
