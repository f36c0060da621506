/- Read of the packages h3frame and bifoldref26. -/
import Derived.Test.YtblgahhfhgdpiaaNumI
namespace Go.Proofs.Ytblgahhfhgdpiaa
open Go.RowKit Go.Deep

/-- Where v[lo:] of a slice of one-cell elements lies. -/
def offA (a : Option Addr) (cap lo : Nat) : Option Addr := if cap = lo then a else a.map (fun x => x.add lo)
theorem offA_eq (a : Option Addr) (cap lo : Nat) : (if cap = lo then a else a.map (fun x => x.add lo)) = offA a cap lo := rfl

theorem rv_facts (xs : List UInt8) : (rvE xs = 20 ∧ rvL xs = 0 ∧ rvV xs = 0) ∨ (∃ k : Nat, 1 ≤ k ∧ k ≤ 8 ∧ k ≤ xs.length ∧ rvL xs = k ∧ rvE xs = 0 ∧ 0 ≤ rvV xs ∧ rvV xs ≤ 4611686018427387903) := by
  by_cases h : rvHave xs = true
  · refine .inr ?_
    have hh := h
    simp only [rvHave, decide_eq_true_eq] at hh
    unfold rvL rvE rvV
    rw [h, if_pos rfl, if_pos rfl, if_pos rfl]
    have hlt : (xs.headD 0).toNat < 256 := (xs.headD 0).toNat_lt
    have hb := rbV_bd xs (rvN (xs.headD 0))
    rcases rvN_cases (xs.headD 0) hlt with ⟨_, hn, _⟩ | ⟨_, _, hn, _⟩ | ⟨_, _, hn, _⟩ | ⟨_, hn, _⟩
    · rw [hn] at hh hb ⊢; rw [rvMask_1]; exact ⟨1, by omega, by omega, by omega, rfl, rfl, by omega, by omega⟩
    · rw [hn] at hh hb ⊢; rw [rvMask_2]; exact ⟨2, by omega, by omega, by omega, rfl, rfl, by omega, by omega⟩
    · rw [hn] at hh hb ⊢; rw [rvMask_4]; exact ⟨4, by omega, by omega, by omega, rfl, rfl, by omega, by omega⟩
    · rw [hn] at hh hb ⊢; rw [rvMask_8]; exact ⟨8, by omega, by omega, by omega, rfl, rfl, by omega, by omega⟩
  · refine .inl ?_
    unfold rvL rvE rvV
    rw [if_neg h, if_neg h, if_neg h]
    exact ⟨rfl, rfl, rfl⟩

theorem By.alloc {w : World} {a : Option Addr} {n cap : Nat} {xs : List UInt8} (h : By w a n cap xs) (o : Obj) : By (w.alloc o) a n cap xs := ⟨h.1, h.2.alloc o⟩
theorem By.mid {w : World} {a : Option Addr} {n cap : Nat} {xs : List UInt8} (h : By w a n cap xs) (lo hi : Nat) (h1 : lo ≤ hi) (h2 : hi ≤ n) : By w (offA a cap lo) (hi - lo) (cap - lo) ((xs.drop lo).take (hi - lo)) := by
  have := h.sub lo hi h1 h2
  rwa [Nat.mul_one] at this
theorem By.from {w : World} {a : Option Addr} {n cap : Nat} {xs : List UInt8} (h : By w a n cap xs) (lo : Nat) (h2 : lo ≤ n) : By w (offA a cap lo) (n - lo) (cap - lo) (xs.drop lo) := by
  have := h.mid lo n h2 (Nat.le_refl _)
  rwa [List.take_of_length_le (by rw [List.length_drop, h.1]; exact Nat.le_refl _)] at this

/-- A frame: type, bytes, how many bytes it takes, the error. -/
def frR (xs : List UInt8) : Int × List UInt8 × Int × Int :=
  if rvE xs ≠ 0 then (0, [], 0, rvE xs)
  else if rvE (xs.drop (rvL xs).toNat) ≠ 0 then (0, [], 0, rvE (xs.drop (rvL xs).toNat))
  else if 16384 < rvV (xs.drop (rvL xs).toNat) then (0, [], 0, 23)
  else if (xs.length : Int) - (rvL xs + rvL (xs.drop (rvL xs).toNat)) < rvV (xs.drop (rvL xs).toNat) then (0, [], 0, 20)
  else (rvV xs, (xs.drop (rvL xs + rvL (xs.drop (rvL xs).toNat)).toNat).take (rvV (xs.drop (rvL xs).toNat)).toNat, rvL xs + rvL (xs.drop (rvL xs).toNat) + rvV (xs.drop (rvL xs).toNat), 0)

theorem frR_1 {xs : List UInt8} (h : rvE xs = 20) : frR xs = (0, [], 0, 20) := by unfold frR; rw [h, if_pos (by decide)]
theorem frR_2 {xs ys : List UInt8} {k : Nat} (h1 : rvE xs = 0) (h2 : rvL xs = k) (hy : xs.drop k = ys) (h3 : rvE ys = 20) : frR xs = (0, [], 0, 20) := by
  unfold frR; rw [h1, h2, Int.toNat_natCast, hy, h3, if_neg (by decide), if_pos (by decide)]
theorem frR_3 {xs ys : List UInt8} {k j n : Nat} (h1 : rvE xs = 0) (h2 : rvL xs = k) (hy : xs.drop k = ys) (h3 : rvE ys = 0) (h5 : rvV ys = n) (hb : (16384 : Int) < n) (_ : rvL ys = j) : frR xs = (0, [], 0, 23) := by
  unfold frR; rw [h1, h2, Int.toNat_natCast, hy, h3, h5, if_neg (by decide), if_neg (by decide), if_pos hb]
theorem frR_4 {xs ys : List UInt8} {k j n : Nat} (h1 : rvE xs = 0) (h2 : rvL xs = k) (hy : xs.drop k = ys) (h3 : rvE ys = 0) (h5 : rvV ys = n) (hb : ¬ (16384 : Int) < n) (h4 : rvL ys = j) (hm : (xs.length : Int) - (k + j) < n) : frR xs = (0, [], 0, 20) := by
  unfold frR; rw [h1, h2, Int.toNat_natCast, hy, h3, h4, h5, if_neg (by decide), if_neg (by decide), if_neg hb, if_pos hm]
theorem frR_5 {xs ys : List UInt8} {k j n : Nat} (h1 : rvE xs = 0) (h2 : rvL xs = k) (hy : xs.drop k = ys) (h3 : rvE ys = 0) (h5 : rvV ys = n) (hb : ¬ (16384 : Int) < n) (h4 : rvL ys = j) (hm : ¬ (xs.length : Int) - (k + j) < n) : frR xs = (rvV xs, (xs.drop (k + j)).take n, (k : Int) + j + n, 0) := by
  unfold frR
  rw [h1, h2, Int.toNat_natCast, hy, h3, h4, h5, if_neg (by decide), if_neg (by decide), if_neg hb, if_neg hm, show ((k : Int) + (j : Int)).toNat = k + j by omega, Int.toNat_natCast]

set_option maxHeartbeats 800000 in
theorem h3read_any (a : Option Addr) (m cap : Nat) (xs : List UInt8) (w : World) (hb : By w a m cap xs) (hl : m ≤ 1000000000) :
    Calls Try.prog 13 #[.slice a m cap] w fun e w' => ∃ a' n' cap', e = .returned (.tuple #[.agg #[.int .u64 (frR xs).1, .slice a' n' cap'], .int .i64 (frR xs).2.2.1, .int .i64 (frR xs).2.2.2]) ∧ Bo w.heap.size w' a' n' cap' (frR xs).2.1 ∧ Below w.heap.size w w' := by
  have hcap := hb.2.le
  have hmax := hb.2.max
  unfold maxLen at hmax
  have HB := Lib.hid hb
  have HN := Lib.hid hb.1
  clear hb
  rcases rv_facts xs with ⟨f1, f2, f3⟩ | ⟨k, k1, k8, kl, g1, g2, g3, g4⟩
  · have F1 := Lib.hid f1
    have F2 := Lib.hid f2
    have F3 := Lib.hid f3
    clear f1 f2 f3
    go_enter Try.func13, Try.ntmps13
    go_wp2_with fail
    refine (readvar_any a m cap xs _ ⟨HB.out.1, HB.out.2.alloc _⟩).mono ?_
    rintro e w' ⟨rfl, rfl⟩
    rw [F1.out, F2.out, F3.out]
    have HR := Lib.hid (frR_1 F1.out)
    go_wp2_with fail
    go_returns
    rw [HR.out]
    exact ⟨none, 0, 0, rfl, Bo.nil _ _, (Below.refl _ _).alloc (Nat.le_refl _) _⟩
  · have G1 := Lib.hid g1
    have G2 := Lib.hid g2
    clear g1 g2
    have ho := offA_eq a cap k
    go_enter Try.func13, Try.ntmps13
    go_wp2_with fail
    refine (readvar_any a m cap xs _ ⟨HB.out.1, HB.out.2.alloc _⟩).mono ?_
    rintro e w' ⟨rfl, rfl⟩
    rw [G1.out, G2.out]
    have hkm : k ≤ m := by have := HN.out; omega
    have hlen2 : (xs.drop k).length = m - k := by rw [List.length_drop, ← HN.out]
    have HB2 := Lib.hid ((HB.out.from k hkm).alloc (.cells #[.int .u64 0, .slice none 0 0] 33 (0, 0)))
    generalize hvx : rvV xs = v at *
    generalize hys : xs.drop k = ys at *
    have HYS := Lib.hid hys
    clear hys
    go_wp2_with fail
    refine (readvar_any _ _ _ ys _ HB2.out).mono ?_
    rintro e w' ⟨rfl, rfl⟩
    rcases rv_facts ys with ⟨f1, f2, f3⟩ | ⟨j, j1, j8, jl, f1, f2, f3, f4⟩
    · have F1 := Lib.hid f1
      have F2 := Lib.hid f2
      have HR := Lib.hid (frR_2 G2.out G1.out HYS.out f1)
      clear f1 f2
      rw [F1.out, F2.out, f3]
      go_wp2_with fail
      go_returns
      rw [HR.out]
      exact ⟨none, 0, 0, rfl, Bo.nil _ _, (Below.refl _ _).alloc (Nat.le_refl _) _⟩
    · have F1 := Lib.hid f1
      have F2 := Lib.hid f2
      clear f1 f2
      rw [F1.out, F2.out]
      generalize hv2 : rvV ys = v2 at *
      obtain ⟨n2, rfl⟩ : ∃ n2 : Nat, v2 = n2 := ⟨v2.toNat, by omega⟩
      have HV2 := Lib.hid hv2
      clear hv2
      have hkj : k + j ≤ m := by omega
      have ho2 := offA_eq a cap (k + j)
      have ho3 : (if cap = ((k : Int) + (j : Int)).toNat then a else a.map (fun x => x.add ((k : Int) + (j : Int)).toNat)) = offA a cap (k + j) := by rw [show ((k : Int) + (j : Int)).toNat = k + j by omega]; rfl
      clear ho
      by_cases hbig : (16384 : Int) < n2
      · have HR := Lib.hid (frR_3 G2.out G1.out HYS.out F2.out HV2.out hbig F1.out)
        go_wp2_with fail
        go_returns
        rw [HR.out]
        exact ⟨none, 0, 0, rfl, Bo.nil _ _, (Below.refl _ _).alloc (Nat.le_refl _) _⟩
      · by_cases hmore : (m : Int) - (k + j) < n2
        · have HR := Lib.hid (frR_4 G2.out G1.out HYS.out F2.out HV2.out hbig F1.out (by rw [← HN.out]; exact hmore))
          go_wp2_with fail
          go_returns
          rw [HR.out]
          exact ⟨none, 0, 0, rfl, Bo.nil _ _, (Below.refl _ _).alloc (Nat.le_refl _) _⟩
        · have HR := Lib.hid (frR_5 G2.out G1.out HYS.out F2.out HV2.out hbig F1.out (by rw [← HN.out]; exact hmore))
          have HB3 := Lib.hid ((HB.out.mid (k + j) (k + j + n2) (by omega) (by omega)).alloc (.cells #[.int .u64 0, .slice none 0 0] 33 (0, 0)))
          go_wp2_with (at_builtin; refine halt ?_)
          refine Halted.go (wpList_copy8 _ rfl _ rfl (offA a cap (k + j)) n2 (cap - (k + j)) ((xs.drop (k + j)).take n2) (by go_simp) (by have h := HB3.out; rw [show k + j + n2 - (k + j) = n2 by omega] at h; exact h) (by omega) ?_)
          intro a6 c6 w6 ho6 hk6
          have hb6 : Blk w6 w.heap.size #[.int .u64 0, .slice none 0 0] 33 := (Below.keeps hk6).blk (Blk.new w _ _) (by simp)
          have q0 := hb6.cell 0
          have q1 := hb6.cell 1
          have r0 := hb6.free 0
          have r1 := hb6.free 1
          have t1 := hb6.set 0 (.int .u64 v)
          have t2 := t1.set 1 (.slice a6 n2 c6)
          have s0 : (w6.setCell ⟨w.heap.size, 0, none⟩ (.int .u64 v)).cell? ⟨w.heap.size, 0, none⟩ = some (.int .u64 v) := by rw [t1.cell]; rfl
          have s1 : ((w6.setCell ⟨w.heap.size, 0, none⟩ (.int .u64 v)).setCell ⟨w.heap.size, 1, none⟩ (.slice a6 n2 c6)).cell? ⟨w.heap.size, 1, none⟩ = some (.slice a6 n2 c6) := by rw [t2.cell]; rfl
          have HO6 := Lib.hid ho6
          have HK6 := Lib.hid hk6
          clear ho6 hk6 hb6 t1 t2
          simp only [List.getElem?_toArray, List.getElem?_cons_zero, List.getElem?_cons_succ] at q0 q1
          go_wp2_with fail
          (try simp only [Exit.inBlock, Exit.then])
          refine bodyPost_ret (by simp [results, Try.results13, go_sem, s0, s1]; try rfl) rfl ?_
          rw [HR.out, hvx]
          refine ⟨a6, n2, c6, rfl, ?_, ?_⟩
          · refine (HO6.out.mono (by simp)).keep (((Keeps.refl _ _).put 0 _).put 1 _) (fun b hb e => ?_)
            have := (HO6.out.ge b hb).1
            simp at this
            omega
          · exact ((Below.alloc (Below.refl _ _) (Nat.le_refl _) _).trans (HK6.out.mono (by simp))).setCell (Nat.le_refl _) _ |>.setCell (Nat.le_refl _) _

set_option maxHeartbeats 800000 in
theorem h3readr_any (a : Option Addr) (m cap : Nat) (xs : List UInt8) (w : World) (hb : By w a m cap xs) (hl : m ≤ 1000000000) :
    Calls Try.prog 15 #[.slice a m cap] w fun e w' => ∃ a' n' cap', e = .returned (.tuple #[.agg #[.int .u64 (frR xs).1, .slice a' n' cap'], .int .i64 (frR xs).2.2.1, .int .i64 (frR xs).2.2.2]) ∧ Bo w.heap.size w' a' n' cap' (frR xs).2.1 ∧ Below w.heap.size w w' := by
  have hcap := hb.2.le
  have hmax := hb.2.max
  unfold maxLen at hmax
  have HB := Lib.hid hb
  have HN := Lib.hid hb.1
  clear hb
  rcases rv_facts xs with ⟨f1, f2, f3⟩ | ⟨k, k1, k8, kl, g1, g2, g3, g4⟩
  · have F1 := Lib.hid f1
    have F2 := Lib.hid f2
    have F3 := Lib.hid f3
    clear f1 f2 f3
    go_enter Try.func15, Try.ntmps15
    go_wp2_with fail
    refine (readvarr_any a m cap xs _ ⟨HB.out.1, HB.out.2.alloc _⟩).mono ?_
    rintro e w' ⟨rfl, rfl⟩
    rw [F1.out, F2.out, F3.out]
    have HR := Lib.hid (frR_1 F1.out)
    go_wp2_with fail
    go_returns
    rw [HR.out]
    exact ⟨none, 0, 0, rfl, Bo.nil _ _, (Below.refl _ _).alloc (Nat.le_refl _) _⟩
  · have G1 := Lib.hid g1
    have G2 := Lib.hid g2
    clear g1 g2
    have ho := offA_eq a cap k
    go_enter Try.func15, Try.ntmps15
    go_wp2_with fail
    refine (readvarr_any a m cap xs _ ⟨HB.out.1, HB.out.2.alloc _⟩).mono ?_
    rintro e w' ⟨rfl, rfl⟩
    rw [G1.out, G2.out]
    have hkm : k ≤ m := by have := HN.out; omega
    have hlen2 : (xs.drop k).length = m - k := by rw [List.length_drop, ← HN.out]
    have HB2 := Lib.hid ((HB.out.from k hkm).alloc (.cells #[.int .u64 0, .slice none 0 0] 33 (0, 0)))
    generalize hvx : rvV xs = v at *
    generalize hys : xs.drop k = ys at *
    have HYS := Lib.hid hys
    clear hys
    go_wp2_with fail
    refine (readvarr_any _ _ _ ys _ HB2.out).mono ?_
    rintro e w' ⟨rfl, rfl⟩
    rcases rv_facts ys with ⟨f1, f2, f3⟩ | ⟨j, j1, j8, jl, f1, f2, f3, f4⟩
    · have F1 := Lib.hid f1
      have F2 := Lib.hid f2
      have HR := Lib.hid (frR_2 G2.out G1.out HYS.out f1)
      clear f1 f2
      rw [F1.out, F2.out, f3]
      go_wp2_with fail
      go_returns
      rw [HR.out]
      exact ⟨none, 0, 0, rfl, Bo.nil _ _, (Below.refl _ _).alloc (Nat.le_refl _) _⟩
    · have F1 := Lib.hid f1
      have F2 := Lib.hid f2
      clear f1 f2
      rw [F1.out, F2.out]
      generalize hv2 : rvV ys = v2 at *
      obtain ⟨n2, rfl⟩ : ∃ n2 : Nat, v2 = n2 := ⟨v2.toNat, by omega⟩
      have HV2 := Lib.hid hv2
      clear hv2
      have hkj : k + j ≤ m := by omega
      have ho2 := offA_eq a cap (k + j)
      have ho3 : (if cap = ((k : Int) + (j : Int)).toNat then a else a.map (fun x => x.add ((k : Int) + (j : Int)).toNat)) = offA a cap (k + j) := by rw [show ((k : Int) + (j : Int)).toNat = k + j by omega]; rfl
      clear ho
      by_cases hbig : (16384 : Int) < n2
      · have HR := Lib.hid (frR_3 G2.out G1.out HYS.out F2.out HV2.out hbig F1.out)
        go_wp2_with fail
        go_returns
        rw [HR.out]
        exact ⟨none, 0, 0, rfl, Bo.nil _ _, (Below.refl _ _).alloc (Nat.le_refl _) _⟩
      · by_cases hmore : (m : Int) - (k + j) < n2
        · have HR := Lib.hid (frR_4 G2.out G1.out HYS.out F2.out HV2.out hbig F1.out (by rw [← HN.out]; exact hmore))
          go_wp2_with fail
          go_returns
          rw [HR.out]
          exact ⟨none, 0, 0, rfl, Bo.nil _ _, (Below.refl _ _).alloc (Nat.le_refl _) _⟩
        · have HR := Lib.hid (frR_5 G2.out G1.out HYS.out F2.out HV2.out hbig F1.out (by rw [← HN.out]; exact hmore))
          have HB3 := Lib.hid ((HB.out.mid (k + j) (k + j + n2) (by omega) (by omega)).alloc (.cells #[.int .u64 0, .slice none 0 0] 33 (0, 0)))
          go_wp2_with (at_builtin; refine halt ?_)
          refine Halted.go (wpList_copy8 _ rfl _ rfl (offA a cap (k + j)) n2 (cap - (k + j)) ((xs.drop (k + j)).take n2) (by go_simp) (by have h := HB3.out; rw [show k + j + n2 - (k + j) = n2 by omega] at h; exact h) (by omega) ?_)
          intro a6 c6 w6 ho6 hk6
          have hb6 : Blk w6 w.heap.size #[.int .u64 0, .slice none 0 0] 33 := (Below.keeps hk6).blk (Blk.new w _ _) (by simp)
          have q0 := hb6.cell 0
          have q1 := hb6.cell 1
          have r0 := hb6.free 0
          have r1 := hb6.free 1
          have t1 := hb6.set 0 (.int .u64 v)
          have t2 := t1.set 1 (.slice a6 n2 c6)
          have s0 : (w6.setCell ⟨w.heap.size, 0, none⟩ (.int .u64 v)).cell? ⟨w.heap.size, 0, none⟩ = some (.int .u64 v) := by rw [t1.cell]; rfl
          have s1 : ((w6.setCell ⟨w.heap.size, 0, none⟩ (.int .u64 v)).setCell ⟨w.heap.size, 1, none⟩ (.slice a6 n2 c6)).cell? ⟨w.heap.size, 1, none⟩ = some (.slice a6 n2 c6) := by rw [t2.cell]; rfl
          have HO6 := Lib.hid ho6
          have HK6 := Lib.hid hk6
          clear ho6 hk6 hb6 t1 t2
          simp only [List.getElem?_toArray, List.getElem?_cons_zero, List.getElem?_cons_succ] at q0 q1
          go_wp2_with fail
          (try simp only [Exit.inBlock, Exit.then])
          refine bodyPost_ret (by simp [results, Try.results15, go_sem, s0, s1]; try rfl) rfl ?_
          rw [HR.out, hvx]
          refine ⟨a6, n2, c6, rfl, ?_, ?_⟩
          · refine (HO6.out.mono (by simp)).keep (((Keeps.refl _ _).put 0 _).put 1 _) (fun b hb e => ?_)
            have := (HO6.out.ge b hb).1
            simp at this
            omega
          · exact ((Below.alloc (Below.refl _ _) (Nat.le_refl _) _).trans (HK6.out.mono (by simp))).setCell (Nat.le_refl _) _ |>.setCell (Nat.le_refl _) _

end Go.Proofs.Ytblgahhfhgdpiaa
