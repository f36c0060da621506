/- What the windows' functions compute, in both packages, said of numbers. -/
import Derived.Test.YtnecdcnokihgoaaV
namespace Go.Proofs.Ytnecdcnokihgoaa
open Go.RowKit

/-- The cell of a window of what may be sent. -/
def outCells (n : Int) : Array Value := #[.int .i64 n]
def OutOk (n : Int) : Prop := -2147483647 ≤ n ∧ n ≤ 2147483647
instance (n : Int) : Decidable (OutOk n) := by unfold OutOk; infer_instance

def outNew (n : Int) : Int := if 2147483647 < (if n < -2147483647 then -2147483647 else n) then 2147483647 else if n < -2147483647 then -2147483647 else n
theorem outNew_ok (n : Int) : OutOk (outNew n) := by unfold outNew OutOk; (repeat' split) <;> omega
def outMay (n : Int) : Int := if n < 0 then 0 else n
theorem outMay_bd (n : Int) : 0 ≤ outMay n ∧ n ≤ outMay n := by unfold outMay; split <;> omega

theorem out_cells {w : World} {b : Nat} {n : Int} {t : TypeId} (h : Blk w b (outCells n) t) : w.cell? ⟨b, 0, none⟩ = some (.int .i64 n) ∧ ∀ i, w.frozen? ⟨b, i, none⟩ = false :=
  ⟨by rw [h.cell]; rfl, fun i => h.free i⟩

structure IN where
  size : Int
  left : Int
  came : Int
  used : Int
  deriving DecidableEq

def inCells (s l c u : Int) : Array Value := #[.int .i64 s, .int .i64 l, .int .i64 c, .int .i64 u]
def IN.cells (c : IN) : Array Value := inCells c.size c.left c.came c.used
def IN.ok (c : IN) : Prop := 1 ≤ c.size ∧ c.size ≤ 2147483647 ∧ 0 ≤ c.left ∧ 0 ≤ c.came ∧ 0 ≤ c.used ∧ c.left + c.came + c.used = c.size
instance (c : IN) : Decidable c.ok := by unfold IN.ok; infer_instance
def inSize (n : Int) : Int := if 2147483647 < (if n < 1 then 1 else n) then 2147483647 else if n < 1 then 1 else n
def inNew (n : Int) : IN := ⟨inSize n, inSize n, 0, 0⟩
theorem inSize_bd (n : Int) : 1 ≤ inSize n ∧ inSize n ≤ 2147483647 := by unfold inSize; (repeat' split) <;> omega
theorem inNew_ok (n : Int) : (inNew n).ok := by
  have := inSize_bd n
  unfold IN.ok inNew
  simp only
  omega

theorem in_cells {w : World} {b : Nat} {c : IN} {t : TypeId} (h : Blk w b c.cells t) :
    (w.cell? ⟨b, 0, none⟩ = some (.int .i64 c.size) ∧ w.cell? ⟨b, 1, none⟩ = some (.int .i64 c.left) ∧ w.cell? ⟨b, 2, none⟩ = some (.int .i64 c.came) ∧ w.cell? ⟨b, 3, none⟩ = some (.int .i64 c.used)) ∧ ∀ i, w.frozen? ⟨b, i, none⟩ = false :=
  ⟨⟨by rw [h.cell]; rfl, by rw [h.cell]; rfl, by rw [h.cell]; rfl, by rw [h.cell]; rfl⟩, fun i => h.free i⟩

/-- How much of n is used, of what came. -/
def dn (c : IN) (n : Int) : Int := if c.came < (if n < 0 then 0 else n) then c.came else if n < 0 then 0 else n
theorem dn_bd {c : IN} (h : c.ok) (n : Int) : 0 ≤ dn c n ∧ dn c n ≤ c.came := by
  unfold IN.ok at h
  unfold dn
  (repeat' split) <;> omega
def half (s : Int) : Int := if s / 2 < 1 then 1 else s / 2

def IN.takeOK (c : IN) (n : Int) : Bool := decide (0 ≤ n ∧ n ≤ c.left)
def IN.take (c : IN) (n : Int) : IN := if 0 ≤ n ∧ n ≤ c.left then { c with left := c.left - n, came := c.came + n } else c
def IN.gave (c : IN) (n : Int) : Int := if c.used + dn c n < half c.size then 0 else c.used + dn c n
def IN.done (c : IN) (n : Int) : IN :=
  if c.used + dn c n < half c.size then { c with came := c.came - dn c n, used := c.used + dn c n }
  else ⟨c.size, c.left + (c.used + dn c n), c.came - dn c n, 0⟩

theorem IN.take_ok {c : IN} (h : c.ok) (n : Int) : (c.take n).ok := by
  unfold IN.take
  split
  · unfold IN.ok at *; simp only; omega
  · exact h
theorem IN.done_ok {c : IN} (h : c.ok) (n : Int) : (c.done n).ok := by
  have hd := dn_bd h n
  unfold IN.done
  unfold IN.ok at *
  split <;> simp only <;> omega

set_option maxHeartbeats 400000 in
theorem outnew_any (n : Int) (w : World) (h0 : -9223372036854775808 ≤ n) (h1 : n ≤ 9223372036854775807) :
    Calls Try.prog 9 #[.int .i64 n] w fun e w' => e = .returned (.pointer (some ⟨w.heap.size, 0, none⟩)) ∧ w' = w.alloc (.cells (outCells (outNew n)) 45 (0, 0)) := by
  go_enter Try.func9, Try.ntmps9
  go_wp2_with (first | go_in | (go_returns; exact ⟨rfl, rfl⟩))

set_option maxHeartbeats 400000 in
theorem may_any (b : Nat) (n : Int) (w : World) (hb : Blk w b (outCells n) 45) :
    Calls Try.prog 18 #[.pointer (some ⟨b, 0, none⟩)] w fun e w' => e = .returned (.int .i64 (outMay n)) ∧ w = w' := by
  obtain ⟨h0, _⟩ := out_cells hb
  clear hb
  go_enter Try.func18, Try.ntmps18
  go_wp2_with (go_returns; exact ⟨rfl, rfl⟩)

def outUseOK (n k : Int) : Bool := decide (0 ≤ k ∧ k ≤ outMay n)
def outUse (n k : Int) : Int := if outUseOK n k then n - k else n

set_option maxHeartbeats 400000 in
theorem use_any (b : Nat) (n k : Int) (w : World) (hb : Blk w b (outCells n) 45) (hn : OutOk n) (hk0 : -9223372036854775808 ≤ k) (hk1 : k ≤ 9223372036854775807) :
    Calls Try.prog 12 #[.pointer (some ⟨b, 0, none⟩), .int .i64 k] w fun e w' => e = .returned (.bool (outUseOK n k)) ∧ Blk w' b (outCells (outUse n k)) 45 ∧ Keeps (fun k => k = b) w w' := by
  obtain ⟨h0, hf⟩ := out_cells hb
  have HB := Lib.hid hb
  obtain ⟨hn0, hn1⟩ := hn
  have hmb := outMay_bd n
  have hmu : outMay n ≤ 2147483647 := by unfold outMay; split <;> omega
  clear hb
  by_cases hg : 0 ≤ k ∧ k ≤ outMay n
  · have HE : Hid (outUseOK n k = true) := by show outUseOK n k = true; simp only [outUseOK, decide_eq_true_eq]; exact hg
    obtain ⟨g0, g1⟩ := hg
    go_enter Try.func12, Try.ntmps12
    go_wp2_with (first | (go_at_call 18; refine (may_any _ n _ HB.out).mono ?_; rintro e w' ⟨rfl, rfl⟩) | go_region)
    all_goals
      go_returns
      refine ⟨by rw [HE.out]; rfl, ?_, by repeat (first | (with_reducible exact Keeps.refl _ _) | (with_reducible refine Keeps.drew ?_) | (with_reducible refine Keeps.put ?_ _ _))⟩
      apply Blk.as
      · repeat (first | (with_reducible exact HB.out) | (with_reducible apply Blk.drew) | (with_reducible apply Blk.set))
      · simp [outCells, outUse, HE.out]
  · have HE : Hid (outUseOK n k = false) := by show outUseOK n k = false; simp only [outUseOK, decide_eq_false_iff_not]; exact hg
    have hg' : k < 0 ∨ ¬ k < 0 ∧ outMay n < k := by omega
    have HQ : Hid (outUse n k = n) := by show outUse n k = n; simp [outUse, HE.out]
    clear hg
    rcases hg' with hg | ⟨hg, hg2⟩
    · go_enter Try.func12, Try.ntmps12
      go_wp2_with (first | (go_at_call 18; refine (may_any _ n _ HB.out).mono ?_; rintro e w' ⟨rfl, rfl⟩) | go_region)
      all_goals
        go_returns
        refine ⟨by rw [HE.out]; rfl, by rw [HQ.out]; exact HB.out, by repeat (first | (with_reducible exact Keeps.refl _ _) | (with_reducible refine Keeps.drew ?_) | (with_reducible refine Keeps.put ?_ _ _))⟩
    · go_enter Try.func12, Try.ntmps12
      go_wp2_with (first | (go_at_call 18; refine (may_any _ n _ HB.out).mono ?_; rintro e w' ⟨rfl, rfl⟩) | go_region)
      all_goals
        go_returns
        refine ⟨by rw [HE.out]; rfl, by rw [HQ.out]; exact HB.out, by repeat (first | (with_reducible exact Keeps.refl _ _) | (with_reducible refine Keeps.drew ?_) | (with_reducible refine Keeps.put ?_ _ _))⟩

def outGrowOK (n k : Int) : Bool := decide (1 ≤ k ∧ k ≤ 2147483647 - n)
def outGrow (n k : Int) : Int := if outGrowOK n k then n + k else n

set_option maxHeartbeats 400000 in
theorem grow_any (b : Nat) (n k : Int) (w : World) (hb : Blk w b (outCells n) 45) (hn : OutOk n) (hk0 : -9223372036854775808 ≤ k) (hk1 : k ≤ 9223372036854775807) :
    Calls Try.prog 14 #[.pointer (some ⟨b, 0, none⟩), .int .i64 k] w fun e w' => e = .returned (.bool (outGrowOK n k)) ∧ Blk w' b (outCells (outGrow n k)) 45 ∧ Keeps (fun k => k = b) w w' := by
  obtain ⟨h0, hf⟩ := out_cells hb
  have HB := Lib.hid hb
  obtain ⟨hn0, hn1⟩ := hn
  have hmb := outMay_bd n
  have hmu : outMay n ≤ 2147483647 := by unfold outMay; split <;> omega
  clear hb
  by_cases hg : 1 ≤ k ∧ k ≤ 2147483647 - n
  · have HE : Hid (outGrowOK n k = true) := by show outGrowOK n k = true; simp only [outGrowOK, decide_eq_true_eq]; exact hg
    obtain ⟨g0, g1⟩ := hg
    go_enter Try.func14, Try.ntmps14
    go_wp2_with (first | (go_at_call 18; refine (may_any _ n _ HB.out).mono ?_; rintro e w' ⟨rfl, rfl⟩) | go_region)
    all_goals
      go_returns
      refine ⟨by rw [HE.out]; rfl, ?_, by repeat (first | (with_reducible exact Keeps.refl _ _) | (with_reducible refine Keeps.drew ?_) | (with_reducible refine Keeps.put ?_ _ _))⟩
      apply Blk.as
      · repeat (first | (with_reducible exact HB.out) | (with_reducible apply Blk.drew) | (with_reducible apply Blk.set))
      · simp [outCells, outGrow, HE.out]
  · have HE : Hid (outGrowOK n k = false) := by show outGrowOK n k = false; simp only [outGrowOK, decide_eq_false_iff_not]; exact hg
    have hg' : k < 1 ∨ ¬ k < 1 ∧ 2147483647 - n < k := by omega
    have HQ : Hid (outGrow n k = n) := by show outGrow n k = n; simp [outGrow, HE.out]
    clear hg
    rcases hg' with hg | ⟨hg, hg2⟩
    · go_enter Try.func14, Try.ntmps14
      go_wp2_with (first | (go_at_call 18; refine (may_any _ n _ HB.out).mono ?_; rintro e w' ⟨rfl, rfl⟩) | go_region)
      all_goals
        go_returns
        refine ⟨by rw [HE.out]; rfl, by rw [HQ.out]; exact HB.out, by repeat (first | (with_reducible exact Keeps.refl _ _) | (with_reducible refine Keeps.drew ?_) | (with_reducible refine Keeps.put ?_ _ _))⟩
    · go_enter Try.func14, Try.ntmps14
      go_wp2_with (first | (go_at_call 18; refine (may_any _ n _ HB.out).mono ?_; rintro e w' ⟨rfl, rfl⟩) | go_region)
      all_goals
        go_returns
        refine ⟨by rw [HE.out]; rfl, by rw [HQ.out]; exact HB.out, by repeat (first | (with_reducible exact Keeps.refl _ _) | (with_reducible refine Keeps.drew ?_) | (with_reducible refine Keeps.put ?_ _ _))⟩

def outShiftOK (n k : Int) : Bool := decide (k ≤ 2147483647 - n ∧ -2147483647 - n ≤ k)
def outShift (n k : Int) : Int := if outShiftOK n k then n + k else n

set_option maxHeartbeats 400000 in
theorem shift_any (b : Nat) (n k : Int) (w : World) (hb : Blk w b (outCells n) 45) (hn : OutOk n) (hk0 : -9223372036854775808 ≤ k) (hk1 : k ≤ 9223372036854775807) :
    Calls Try.prog 16 #[.pointer (some ⟨b, 0, none⟩), .int .i64 k] w fun e w' => e = .returned (.bool (outShiftOK n k)) ∧ Blk w' b (outCells (outShift n k)) 45 ∧ Keeps (fun k => k = b) w w' := by
  obtain ⟨h0, hf⟩ := out_cells hb
  have HB := Lib.hid hb
  obtain ⟨hn0, hn1⟩ := hn
  have hmb := outMay_bd n
  have hmu : outMay n ≤ 2147483647 := by unfold outMay; split <;> omega
  clear hb
  by_cases hg : k ≤ 2147483647 - n ∧ -2147483647 - n ≤ k
  · have HE : Hid (outShiftOK n k = true) := by show outShiftOK n k = true; simp only [outShiftOK, decide_eq_true_eq]; exact hg
    obtain ⟨g0, g1⟩ := hg
    go_enter Try.func16, Try.ntmps16
    go_wp2_with (first | (go_at_call 18; refine (may_any _ n _ HB.out).mono ?_; rintro e w' ⟨rfl, rfl⟩) | go_region)
    all_goals
      go_returns
      refine ⟨by rw [HE.out]; rfl, ?_, by repeat (first | (with_reducible exact Keeps.refl _ _) | (with_reducible refine Keeps.drew ?_) | (with_reducible refine Keeps.put ?_ _ _))⟩
      apply Blk.as
      · repeat (first | (with_reducible exact HB.out) | (with_reducible apply Blk.drew) | (with_reducible apply Blk.set))
      · simp [outCells, outShift, HE.out]
  · have HE : Hid (outShiftOK n k = false) := by show outShiftOK n k = false; simp only [outShiftOK, decide_eq_false_iff_not]; exact hg
    have hg' : 2147483647 - n < k ∨ ¬ 2147483647 - n < k ∧ k < -2147483647 - n := by omega
    have HQ : Hid (outShift n k = n) := by show outShift n k = n; simp [outShift, HE.out]
    clear hg
    rcases hg' with hg | ⟨hg, hg2⟩
    · go_enter Try.func16, Try.ntmps16
      go_wp2_with (first | (go_at_call 18; refine (may_any _ n _ HB.out).mono ?_; rintro e w' ⟨rfl, rfl⟩) | go_region)
      all_goals
        go_returns
        refine ⟨by rw [HE.out]; rfl, by rw [HQ.out]; exact HB.out, by repeat (first | (with_reducible exact Keeps.refl _ _) | (with_reducible refine Keeps.drew ?_) | (with_reducible refine Keeps.put ?_ _ _))⟩
    · go_enter Try.func16, Try.ntmps16
      go_wp2_with (first | (go_at_call 18; refine (may_any _ n _ HB.out).mono ?_; rintro e w' ⟨rfl, rfl⟩) | go_region)
      all_goals
        go_returns
        refine ⟨by rw [HE.out]; rfl, by rw [HQ.out]; exact HB.out, by repeat (first | (with_reducible exact Keeps.refl _ _) | (with_reducible refine Keeps.drew ?_) | (with_reducible refine Keeps.put ?_ _ _))⟩

set_option maxHeartbeats 400000 in
theorem innew_any (n : Int) (w : World) :
    Calls Try.prog 20 #[.int .i64 n] w fun e w' => e = .returned (.pointer (some ⟨w.heap.size, 0, none⟩)) ∧ w' = w.alloc (.cells (inNew n).cells 49 (0, 0)) := by
  go_enter Try.func20, Try.ntmps20
  go_wp2_with (first | (go_returns; exact ⟨rfl, rfl⟩))

set_option maxHeartbeats 400000 in
theorem take_any (b : Nat) (c : IN) (k : Int) (w : World) (hb : Blk w b c.cells 49) (hc : c.ok) (hk0 : -9223372036854775808 ≤ k) (hk1 : k ≤ 9223372036854775807) :
    Calls Try.prog 22 #[.pointer (some ⟨b, 0, none⟩), .int .i64 k] w fun e w' => e = .returned (.bool (c.takeOK k)) ∧ Blk w' b (c.take k).cells 49 ∧ Keeps (fun k => k = b) w w' := by
  obtain ⟨⟨h0, h1, h2, h3⟩, hf⟩ := in_cells hb
  have HB := Lib.hid hb
  obtain ⟨hc0, hc1, hc2, hc3, hc4, hc5⟩ := hc
  have hs1 : c.left ≤ 2147483647 := by omega
  have hs2 : c.came ≤ 2147483647 := by omega
  have hs3 : c.used ≤ 2147483647 := by omega
  clear hb
  have HC5 := Lib.hid hc5
  clear hc5
  by_cases g0 : k < 0
  · have HE : Hid (¬ (0 ≤ k ∧ k ≤ c.left)) := by show ¬ _; omega
    have HQ : Hid (c.takeOK k = false) := by show _ = false; rw [IN.takeOK, decide_eq_false HE.out]
    go_enter Try.func22, Try.ntmps22
    go_wp2_with (first | go_region)
    all_goals
      go_returns
      refine ⟨by rw [HQ.out]; rfl, by rw [IN.take, if_neg HE.out]; exact HB.out, by repeat (first | (with_reducible exact Keeps.refl _ _) | (with_reducible refine Keeps.drew ?_) | (with_reducible refine Keeps.put ?_ _ _))⟩
  · by_cases g1 : c.left < k
    · have HE : Hid (¬ (0 ≤ k ∧ k ≤ c.left)) := by show ¬ _; omega
      have HQ : Hid (c.takeOK k = false) := by show _ = false; rw [IN.takeOK, decide_eq_false HE.out]
      go_enter Try.func22, Try.ntmps22
      go_wp2_with (first | go_region)
      all_goals
        go_returns
        refine ⟨by rw [HQ.out]; rfl, by rw [IN.take, if_neg HE.out]; exact HB.out, by repeat (first | (with_reducible exact Keeps.refl _ _) | (with_reducible refine Keeps.drew ?_) | (with_reducible refine Keeps.put ?_ _ _))⟩
    · have HE : Hid (0 ≤ k ∧ k ≤ c.left) := by show _ ∧ _; omega
      have HQ : Hid (c.takeOK k = true) := by show _ = true; rw [IN.takeOK, decide_eq_true HE.out]
      go_enter Try.func22, Try.ntmps22
      go_wp2_with (first | go_region)
      all_goals
        go_returns
        refine ⟨by rw [HQ.out]; rfl, ?_, by repeat (first | (with_reducible exact Keeps.refl _ _) | (with_reducible refine Keeps.drew ?_) | (with_reducible refine Keeps.put ?_ _ _))⟩
        apply Blk.as
        · repeat (first | (with_reducible exact HB.out) | (with_reducible apply Blk.drew) | (with_reducible apply Blk.set))
        · rw [IN.take, if_pos HE.out]; simp [IN.cells, inCells]

set_option maxHeartbeats 400000 in
theorem done_any (b : Nat) (c : IN) (k : Int) (w : World) (hb : Blk w b c.cells 49) (hc : c.ok) (hk0 : -9223372036854775808 ≤ k) (hk1 : k ≤ 9223372036854775807) :
    Calls Try.prog 24 #[.pointer (some ⟨b, 0, none⟩), .int .i64 k] w fun e w' => e = .returned (.int .i64 (c.gave k)) ∧ Blk w' b (c.done k).cells 49 ∧ Keeps (fun k => k = b) w w' := by
  obtain ⟨hd0, hd1⟩ := dn_bd hc k
  obtain ⟨⟨h0, h1, h2, h3⟩, hf⟩ := in_cells hb
  have HB := Lib.hid hb
  obtain ⟨hc0, hc1, hc2, hc3, hc4, hc5⟩ := hc
  have hs1 : c.left ≤ 2147483647 := by omega
  have hs2 : c.came ≤ 2147483647 := by omega
  have hs3 : c.used ≤ 2147483647 := by omega
  clear hb
  have HC5 := Lib.hid hc5
  clear hc5
  have hm : (if c.came < (if k < 0 then 0 else k) then c.came else if k < 0 then 0 else k) = dn c k := rfl
  have hh : (if c.size / 2 < 1 then 1 else c.size / 2) = half c.size := rfl
  by_cases hg : c.used + dn c k < half c.size
  · go_enter Try.func24, Try.ntmps24
    go_wp2_with (first | go_region)
    all_goals
      go_returns
      refine ⟨by rw [IN.gave, if_pos hg]; rfl, ?_, by repeat (first | (with_reducible exact Keeps.refl _ _) | (with_reducible refine Keeps.drew ?_) | (with_reducible refine Keeps.put ?_ _ _))⟩
      rw [IN.done, if_pos hg]
      apply Blk.as
      · repeat (first | (with_reducible exact HB.out) | (with_reducible apply Blk.drew) | (with_reducible apply Blk.set))
      · simp [IN.cells, inCells]
  · go_enter Try.func24, Try.ntmps24
    go_wp2_with (first | go_region)
    all_goals
      go_returns
      refine ⟨by rw [IN.gave, if_neg (by omega)]; rfl, ?_, by repeat (first | (with_reducible exact Keeps.refl _ _) | (with_reducible refine Keeps.drew ?_) | (with_reducible refine Keeps.put ?_ _ _))⟩
      rw [IN.done, if_neg (by omega)]
      apply Blk.as
      · repeat (first | (with_reducible exact HB.out) | (with_reducible apply Blk.drew) | (with_reducible apply Blk.set))
      · simp [IN.cells, inCells]

set_option maxHeartbeats 400000 in
theorem outnewr_any (n : Int) (w : World) (h0 : -9223372036854775808 ≤ n) (h1 : n ≤ 9223372036854775807) :
    Calls Try.prog 10 #[.int .i64 n] w fun e w' => e = .returned (.pointer (some ⟨w.heap.size, 0, none⟩)) ∧ w' = w.alloc (.cells (outCells (outNew n)) 47 (0, 0)) := by
  go_enter Try.func10, Try.ntmps10
  go_wp2_with (first | go_in | (go_returns; exact ⟨rfl, rfl⟩))

set_option maxHeartbeats 400000 in
theorem mayr_any (b : Nat) (n : Int) (w : World) (hb : Blk w b (outCells n) 47) :
    Calls Try.prog 19 #[.pointer (some ⟨b, 0, none⟩)] w fun e w' => e = .returned (.int .i64 (outMay n)) ∧ w = w' := by
  obtain ⟨h0, _⟩ := out_cells hb
  clear hb
  go_enter Try.func19, Try.ntmps19
  go_wp2_with (go_returns; exact ⟨rfl, rfl⟩)


set_option maxHeartbeats 400000 in
theorem user_any (b : Nat) (n k : Int) (w : World) (hb : Blk w b (outCells n) 47) (hn : OutOk n) (hk0 : -9223372036854775808 ≤ k) (hk1 : k ≤ 9223372036854775807) :
    Calls Try.prog 13 #[.pointer (some ⟨b, 0, none⟩), .int .i64 k] w fun e w' => e = .returned (.bool (outUseOK n k)) ∧ Blk w' b (outCells (outUse n k)) 47 ∧ Keeps (fun k => k = b) w w' := by
  obtain ⟨h0, hf⟩ := out_cells hb
  have HB := Lib.hid hb
  obtain ⟨hn0, hn1⟩ := hn
  have hmb := outMay_bd n
  have hmu : outMay n ≤ 2147483647 := by unfold outMay; split <;> omega
  clear hb
  by_cases hg : 0 ≤ k ∧ k ≤ outMay n
  · have HE : Hid (outUseOK n k = true) := by show outUseOK n k = true; simp only [outUseOK, decide_eq_true_eq]; exact hg
    obtain ⟨g0, g1⟩ := hg
    go_enter Try.func13, Try.ntmps13
    go_wp2_with (first | (go_at_call 19; refine (mayr_any _ n _ HB.out).mono ?_; rintro e w' ⟨rfl, rfl⟩) | go_region)
    all_goals
      go_returns
      refine ⟨by rw [HE.out]; rfl, ?_, by repeat (first | (with_reducible exact Keeps.refl _ _) | (with_reducible refine Keeps.drew ?_) | (with_reducible refine Keeps.put ?_ _ _))⟩
      apply Blk.as
      · repeat (first | (with_reducible exact HB.out) | (with_reducible apply Blk.drew) | (with_reducible apply Blk.set))
      · simp [outCells, outUse, HE.out]
  · have HE : Hid (outUseOK n k = false) := by show outUseOK n k = false; simp only [outUseOK, decide_eq_false_iff_not]; exact hg
    have hg' : k < 0 ∨ ¬ k < 0 ∧ outMay n < k := by omega
    have HQ : Hid (outUse n k = n) := by show outUse n k = n; simp [outUse, HE.out]
    clear hg
    rcases hg' with hg | ⟨hg, hg2⟩
    · go_enter Try.func13, Try.ntmps13
      go_wp2_with (first | (go_at_call 19; refine (mayr_any _ n _ HB.out).mono ?_; rintro e w' ⟨rfl, rfl⟩) | go_region)
      all_goals
        go_returns
        refine ⟨by rw [HE.out]; rfl, by rw [HQ.out]; exact HB.out, by repeat (first | (with_reducible exact Keeps.refl _ _) | (with_reducible refine Keeps.drew ?_) | (with_reducible refine Keeps.put ?_ _ _))⟩
    · go_enter Try.func13, Try.ntmps13
      go_wp2_with (first | (go_at_call 19; refine (mayr_any _ n _ HB.out).mono ?_; rintro e w' ⟨rfl, rfl⟩) | go_region)
      all_goals
        go_returns
        refine ⟨by rw [HE.out]; rfl, by rw [HQ.out]; exact HB.out, by repeat (first | (with_reducible exact Keeps.refl _ _) | (with_reducible refine Keeps.drew ?_) | (with_reducible refine Keeps.put ?_ _ _))⟩


set_option maxHeartbeats 400000 in
theorem growr_any (b : Nat) (n k : Int) (w : World) (hb : Blk w b (outCells n) 47) (hn : OutOk n) (hk0 : -9223372036854775808 ≤ k) (hk1 : k ≤ 9223372036854775807) :
    Calls Try.prog 15 #[.pointer (some ⟨b, 0, none⟩), .int .i64 k] w fun e w' => e = .returned (.bool (outGrowOK n k)) ∧ Blk w' b (outCells (outGrow n k)) 47 ∧ Keeps (fun k => k = b) w w' := by
  obtain ⟨h0, hf⟩ := out_cells hb
  have HB := Lib.hid hb
  obtain ⟨hn0, hn1⟩ := hn
  have hmb := outMay_bd n
  have hmu : outMay n ≤ 2147483647 := by unfold outMay; split <;> omega
  clear hb
  by_cases hg : 1 ≤ k ∧ k ≤ 2147483647 - n
  · have HE : Hid (outGrowOK n k = true) := by show outGrowOK n k = true; simp only [outGrowOK, decide_eq_true_eq]; exact hg
    obtain ⟨g0, g1⟩ := hg
    go_enter Try.func15, Try.ntmps15
    go_wp2_with (first | (go_at_call 19; refine (mayr_any _ n _ HB.out).mono ?_; rintro e w' ⟨rfl, rfl⟩) | go_region)
    all_goals
      go_returns
      refine ⟨by rw [HE.out]; rfl, ?_, by repeat (first | (with_reducible exact Keeps.refl _ _) | (with_reducible refine Keeps.drew ?_) | (with_reducible refine Keeps.put ?_ _ _))⟩
      apply Blk.as
      · repeat (first | (with_reducible exact HB.out) | (with_reducible apply Blk.drew) | (with_reducible apply Blk.set))
      · simp [outCells, outGrow, HE.out]
  · have HE : Hid (outGrowOK n k = false) := by show outGrowOK n k = false; simp only [outGrowOK, decide_eq_false_iff_not]; exact hg
    have hg' : k < 1 ∨ ¬ k < 1 ∧ 2147483647 - n < k := by omega
    have HQ : Hid (outGrow n k = n) := by show outGrow n k = n; simp [outGrow, HE.out]
    clear hg
    rcases hg' with hg | ⟨hg, hg2⟩
    · go_enter Try.func15, Try.ntmps15
      go_wp2_with (first | (go_at_call 19; refine (mayr_any _ n _ HB.out).mono ?_; rintro e w' ⟨rfl, rfl⟩) | go_region)
      all_goals
        go_returns
        refine ⟨by rw [HE.out]; rfl, by rw [HQ.out]; exact HB.out, by repeat (first | (with_reducible exact Keeps.refl _ _) | (with_reducible refine Keeps.drew ?_) | (with_reducible refine Keeps.put ?_ _ _))⟩
    · go_enter Try.func15, Try.ntmps15
      go_wp2_with (first | (go_at_call 19; refine (mayr_any _ n _ HB.out).mono ?_; rintro e w' ⟨rfl, rfl⟩) | go_region)
      all_goals
        go_returns
        refine ⟨by rw [HE.out]; rfl, by rw [HQ.out]; exact HB.out, by repeat (first | (with_reducible exact Keeps.refl _ _) | (with_reducible refine Keeps.drew ?_) | (with_reducible refine Keeps.put ?_ _ _))⟩


set_option maxHeartbeats 400000 in
theorem shiftr_any (b : Nat) (n k : Int) (w : World) (hb : Blk w b (outCells n) 47) (hn : OutOk n) (hk0 : -9223372036854775808 ≤ k) (hk1 : k ≤ 9223372036854775807) :
    Calls Try.prog 17 #[.pointer (some ⟨b, 0, none⟩), .int .i64 k] w fun e w' => e = .returned (.bool (outShiftOK n k)) ∧ Blk w' b (outCells (outShift n k)) 47 ∧ Keeps (fun k => k = b) w w' := by
  obtain ⟨h0, hf⟩ := out_cells hb
  have HB := Lib.hid hb
  obtain ⟨hn0, hn1⟩ := hn
  have hmb := outMay_bd n
  have hmu : outMay n ≤ 2147483647 := by unfold outMay; split <;> omega
  clear hb
  by_cases hg : k ≤ 2147483647 - n ∧ -2147483647 - n ≤ k
  · have HE : Hid (outShiftOK n k = true) := by show outShiftOK n k = true; simp only [outShiftOK, decide_eq_true_eq]; exact hg
    obtain ⟨g0, g1⟩ := hg
    go_enter Try.func17, Try.ntmps17
    go_wp2_with (first | (go_at_call 19; refine (mayr_any _ n _ HB.out).mono ?_; rintro e w' ⟨rfl, rfl⟩) | go_region)
    all_goals
      go_returns
      refine ⟨by rw [HE.out]; rfl, ?_, by repeat (first | (with_reducible exact Keeps.refl _ _) | (with_reducible refine Keeps.drew ?_) | (with_reducible refine Keeps.put ?_ _ _))⟩
      apply Blk.as
      · repeat (first | (with_reducible exact HB.out) | (with_reducible apply Blk.drew) | (with_reducible apply Blk.set))
      · simp [outCells, outShift, HE.out]
  · have HE : Hid (outShiftOK n k = false) := by show outShiftOK n k = false; simp only [outShiftOK, decide_eq_false_iff_not]; exact hg
    have hg' : 2147483647 - n < k ∨ ¬ 2147483647 - n < k ∧ k < -2147483647 - n := by omega
    have HQ : Hid (outShift n k = n) := by show outShift n k = n; simp [outShift, HE.out]
    clear hg
    rcases hg' with hg | ⟨hg, hg2⟩
    · go_enter Try.func17, Try.ntmps17
      go_wp2_with (first | (go_at_call 19; refine (mayr_any _ n _ HB.out).mono ?_; rintro e w' ⟨rfl, rfl⟩) | go_region)
      all_goals
        go_returns
        refine ⟨by rw [HE.out]; rfl, by rw [HQ.out]; exact HB.out, by repeat (first | (with_reducible exact Keeps.refl _ _) | (with_reducible refine Keeps.drew ?_) | (with_reducible refine Keeps.put ?_ _ _))⟩
    · go_enter Try.func17, Try.ntmps17
      go_wp2_with (first | (go_at_call 19; refine (mayr_any _ n _ HB.out).mono ?_; rintro e w' ⟨rfl, rfl⟩) | go_region)
      all_goals
        go_returns
        refine ⟨by rw [HE.out]; rfl, by rw [HQ.out]; exact HB.out, by repeat (first | (with_reducible exact Keeps.refl _ _) | (with_reducible refine Keeps.drew ?_) | (with_reducible refine Keeps.put ?_ _ _))⟩

set_option maxHeartbeats 400000 in
theorem innewr_any (n : Int) (w : World) :
    Calls Try.prog 21 #[.int .i64 n] w fun e w' => e = .returned (.pointer (some ⟨w.heap.size, 0, none⟩)) ∧ w' = w.alloc (.cells (inNew n).cells 39 (0, 0)) := by
  go_enter Try.func21, Try.ntmps21
  go_wp2_with (first | (go_returns; exact ⟨rfl, rfl⟩))

set_option maxHeartbeats 400000 in
theorem taker_any (b : Nat) (c : IN) (k : Int) (w : World) (hb : Blk w b c.cells 39) (hc : c.ok) (hk0 : -9223372036854775808 ≤ k) (hk1 : k ≤ 9223372036854775807) :
    Calls Try.prog 23 #[.pointer (some ⟨b, 0, none⟩), .int .i64 k] w fun e w' => e = .returned (.bool (c.takeOK k)) ∧ Blk w' b (c.take k).cells 39 ∧ Keeps (fun k => k = b) w w' := by
  obtain ⟨⟨h0, h1, h2, h3⟩, hf⟩ := in_cells hb
  have HB := Lib.hid hb
  obtain ⟨hc0, hc1, hc2, hc3, hc4, hc5⟩ := hc
  have hs1 : c.left ≤ 2147483647 := by omega
  have hs2 : c.came ≤ 2147483647 := by omega
  have hs3 : c.used ≤ 2147483647 := by omega
  clear hb
  have HC5 := Lib.hid hc5
  clear hc5
  by_cases g0 : k < 0
  · have HE : Hid (¬ (0 ≤ k ∧ k ≤ c.left)) := by show ¬ _; omega
    have HQ : Hid (c.takeOK k = false) := by show _ = false; rw [IN.takeOK, decide_eq_false HE.out]
    go_enter Try.func23, Try.ntmps23
    go_wp2_with (first | go_region)
    all_goals
      go_returns
      refine ⟨by rw [HQ.out]; rfl, by rw [IN.take, if_neg HE.out]; exact HB.out, by repeat (first | (with_reducible exact Keeps.refl _ _) | (with_reducible refine Keeps.drew ?_) | (with_reducible refine Keeps.put ?_ _ _))⟩
  · by_cases g1 : c.left < k
    · have HE : Hid (¬ (0 ≤ k ∧ k ≤ c.left)) := by show ¬ _; omega
      have HQ : Hid (c.takeOK k = false) := by show _ = false; rw [IN.takeOK, decide_eq_false HE.out]
      go_enter Try.func23, Try.ntmps23
      go_wp2_with (first | go_region)
      all_goals
        go_returns
        refine ⟨by rw [HQ.out]; rfl, by rw [IN.take, if_neg HE.out]; exact HB.out, by repeat (first | (with_reducible exact Keeps.refl _ _) | (with_reducible refine Keeps.drew ?_) | (with_reducible refine Keeps.put ?_ _ _))⟩
    · have HE : Hid (0 ≤ k ∧ k ≤ c.left) := by show _ ∧ _; omega
      have HQ : Hid (c.takeOK k = true) := by show _ = true; rw [IN.takeOK, decide_eq_true HE.out]
      go_enter Try.func23, Try.ntmps23
      go_wp2_with (first | go_region)
      all_goals
        go_returns
        refine ⟨by rw [HQ.out]; rfl, ?_, by repeat (first | (with_reducible exact Keeps.refl _ _) | (with_reducible refine Keeps.drew ?_) | (with_reducible refine Keeps.put ?_ _ _))⟩
        apply Blk.as
        · repeat (first | (with_reducible exact HB.out) | (with_reducible apply Blk.drew) | (with_reducible apply Blk.set))
        · rw [IN.take, if_pos HE.out]; simp [IN.cells, inCells]

set_option maxHeartbeats 400000 in
theorem doner_any (b : Nat) (c : IN) (k : Int) (w : World) (hb : Blk w b c.cells 39) (hc : c.ok) (hk0 : -9223372036854775808 ≤ k) (hk1 : k ≤ 9223372036854775807) :
    Calls Try.prog 25 #[.pointer (some ⟨b, 0, none⟩), .int .i64 k] w fun e w' => e = .returned (.int .i64 (c.gave k)) ∧ Blk w' b (c.done k).cells 39 ∧ Keeps (fun k => k = b) w w' := by
  obtain ⟨hd0, hd1⟩ := dn_bd hc k
  obtain ⟨⟨h0, h1, h2, h3⟩, hf⟩ := in_cells hb
  have HB := Lib.hid hb
  obtain ⟨hc0, hc1, hc2, hc3, hc4, hc5⟩ := hc
  have hs1 : c.left ≤ 2147483647 := by omega
  have hs2 : c.came ≤ 2147483647 := by omega
  have hs3 : c.used ≤ 2147483647 := by omega
  clear hb
  have HC5 := Lib.hid hc5
  clear hc5
  have hm : (if c.came < (if k < 0 then 0 else k) then c.came else if k < 0 then 0 else k) = dn c k := rfl
  have hh : (if c.size / 2 < 1 then 1 else c.size / 2) = half c.size := rfl
  by_cases hg : c.used + dn c k < half c.size
  · go_enter Try.func25, Try.ntmps25
    go_wp2_with (first | go_region)
    all_goals
      go_returns
      refine ⟨by rw [IN.gave, if_pos hg]; rfl, ?_, by repeat (first | (with_reducible exact Keeps.refl _ _) | (with_reducible refine Keeps.drew ?_) | (with_reducible refine Keeps.put ?_ _ _))⟩
      rw [IN.done, if_pos hg]
      apply Blk.as
      · repeat (first | (with_reducible exact HB.out) | (with_reducible apply Blk.drew) | (with_reducible apply Blk.set))
      · simp [IN.cells, inCells]
  · go_enter Try.func25, Try.ntmps25
    go_wp2_with (first | go_region)
    all_goals
      go_returns
      refine ⟨by rw [IN.gave, if_neg (by omega)]; rfl, ?_, by repeat (first | (with_reducible exact Keeps.refl _ _) | (with_reducible refine Keeps.drew ?_) | (with_reducible refine Keeps.put ?_ _ _))⟩
      rw [IN.done, if_neg (by omega)]
      apply Blk.as
      · repeat (first | (with_reducible exact HB.out) | (with_reducible apply Blk.drew) | (with_reducible apply Blk.set))
      · simp [IN.cells, inCells]

set_option maxHeartbeats 400000 in
theorem left_any (b : Nat) (c : IN) (w : World) (hb : Blk w b c.cells 49) :
    Calls Try.prog 26 #[.pointer (some ⟨b, 0, none⟩)] w fun e w' => e = .returned (.int .i64 c.left) ∧ w = w' := by
  obtain ⟨⟨_, h1, _, _⟩, _⟩ := in_cells hb
  clear hb
  go_enter Try.func26, Try.ntmps26
  go_wp2
  go_returns
  exact ⟨rfl, rfl⟩

end Go.Proofs.Ytnecdcnokihgoaa
