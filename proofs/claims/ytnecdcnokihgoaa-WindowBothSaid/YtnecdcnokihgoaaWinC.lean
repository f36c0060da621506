/- The walks of WindowOuts and WindowIns. -/
import Derived.Test.YtnecdcnokihgoaaWinB
namespace Go.Proofs.Ytnecdcnokihgoaa
open Go.RowKit

set_option maxRecDepth 100000 in
set_option maxHeartbeats 2000000 in
theorem walkWindowOuts (w : World) (a0 : Int) (w0 : (Lit.int .i64 a0).wf = true) (v1 : Value) (hv : Arg Try.prog w 22 v1) :
    Calls Try.prog 3 #[.int .i64 a0, v1] w fun e w' => e = .returned (.bool true) ∧ Below w.heap.size w w' := by
  obtain ⟨h0, h0'⟩ := wf_i64_iff w0
  clear w0
  obtain ⟨ad, len, cap, V, rfl, hl, hcap, hseen, hrd⟩ := act_of hv
  clear hv
  have HSEEN := Lib.hid hseen
  have HRD := Lib.hid hrd
  clear hseen hrd
  unfold maxLen at hcap
  by_cases hlong : 60 < len
  · go_enter Try.func3, Try.ntmps3
    go_wp2_with fail
    refine (known_any w).mono ?_
    rintro e w1 ⟨rfl, hk⟩
    have HK := Lib.hid hk
    clear hk
    go_wp2_with fail
    go_returns
    exact ⟨rfl, HK.out⟩
  · go_enter Try.func3, Try.ntmps3
    go_wp2_with fail
    refine (known_any w).mono ?_
    rintro e w1 ⟨rfl, hk⟩
    have HK := Lib.hid hk
    have HS := Lib.hid hk.size
    clear hk
    go_wp2_with fail
    refine (outnew_any a0 _ h0 h0').mono ?_
    rintro e w2 ⟨rfl, hw2⟩
    have HA2 : Hid (Blk w2 w1.heap.size (outCells (outNew a0)) 45) := by rw [hw2]; exact Blk.new _ _ _
    have HK2 : Hid (Below w.heap.size w w2) := by rw [hw2]; exact HK.out.alloc HK.out.size _
    have hsz : w2.heap.size = w1.heap.size + 1 := by rw [hw2]; simp
    clear hw2
    go_wp2_with fail
    refine (outnewr_any a0 _ h0 h0').mono ?_
    rintro e w3 ⟨rfl, hw3⟩
    have HA3 : Hid (Blk w3 w1.heap.size (outCells (outNew a0)) 45) := by rw [hw3]; exact HA2.out.alloc _
    have HB3 : Hid (Blk w3 (w1.heap.size + 1) (outCells (outNew a0)) 47) := by rw [hw3, ← hsz]; exact Blk.new _ _ _
    have HK3 : Hid (Below w.heap.size w w3) := by rw [hw3]; exact HK2.out.alloc HK2.out.size _
    rw [hsz]
    clear hw3 hsz HA2 HK2
    go_wp2_with fail
    have HOK3 := Lib.hid (outNew_ok a0)
    generalize outNew a0 = n0 at *
    go_loopg [7] len (fun k vi wr => ∃ (i : Nat) (n : Int), k + i = len ∧ vi = .int .i64 i ∧ OutOk n ∧ Blk wr w1.heap.size (outCells n) 45 ∧ Blk wr (w1.heap.size + 1) (outCells n) 47 ∧ Below w.heap.size w wr)
    case atStart => exact ⟨0, _, by omega, rfl, HOK3.out, HA3.out, HB3.out, HK3.out⟩
    case round =>
      obtain ⟨i, n, hi, rfl, hok, hb, hd, hk⟩ := hrel
      have HA0 := Lib.hid hb
      have HB0 := Lib.hid hd
      have HK0 := Lib.hid hk
      have HI := Lib.hid hi
      have HOK := Lib.hid hok
      clear hb hd hk hi hok HA3 HB3 HK3 HOK3
      by_cases hil : i < len
      · obtain ⟨q, m, e0, e1, hq, hm⟩ := HRD.out i (by omega)
        obtain ⟨b, off, rfl, hblt, hcell⟩ := HSEEN.out.resolve_left (by omega)
        have c0 := hcell i 0 (by omega) (by omega)
        have c1 := hcell i 1 (by omega) (by omega)
        rw [e0, ← HK0.out.cell hblt] at c0
        rw [e1, ← HK0.out.cell hblt] at c1
        rw [Nat.add_zero] at c0
        clear hcell e0 e1
        obtain ⟨k', rfl⟩ : ∃ k', gk = k' + 1 := ⟨gk - 1, by have := HI.out; omega⟩
        obtain ⟨hx0, hx1⟩ := nearV_bd q m hm.1 hm.2
        go_wp2_with fail
        refine (near_any q m _ hq.1 hq.2).mono ?_
        rintro e w4 ⟨rfl, hw4⟩
        have d0 : w4.cell? ⟨b, off + i * 2, none⟩ = some (.int .u8 q) := by rw [hw4]; exact (((HK0.out.alloc HK0.out.size _).cell (p := ⟨b, off + i * 2, none⟩) hblt).trans ((HK0.out.cell (p := ⟨b, off + i * 2, none⟩) hblt).symm)).trans c0
        have HA4 := Lib.hid (HA0.out.alloc (.cells #[.int .u8 q, .int .i64 m] 29 (0, 0)))
        have HB4 := Lib.hid (HB0.out.alloc (.cells #[.int .u8 q, .int .i64 m] 29 (0, 0)))
        have HK4 : Hid (Below w.heap.size w (wr.alloc (.cells #[.int .u8 q, .int .i64 m] 29 (0, 0)))) := HK0.out.alloc HK0.out.size _
        rw [← hw4] at HA4 HB4 HK4
        clear hw4 c0 c1 HA0 HB0 HK0
        generalize nearV q m = x at *
        by_cases hq0 : q % 3 = 0
        · have hq0' : (q % 3 == 0) = true := by simp [hq0]
          clear hq0
          go_wp2_with fail
          refine (use_any _ n x _ HA4.out HOK.out hx0 hx1).mono ?_
          rintro e wx1 ⟨rfl, hb, hk⟩
          have HAx1 := Lib.hid hb
          have HBx1 := Lib.hid (hk.blk HB4.out (by omega))
          have HKx1 := Lib.hid (Keeps.below HK4.out hk HK4.out.size (by intro k h; subst h; exact HS.out))
          clear hb hk HA4 HB4 HK4
          go_wp2_with fail
          refine (user_any _ n x _ HBx1.out HOK.out hx0 hx1).mono ?_
          rintro e wx2 ⟨rfl, hb, hk⟩
          have HBx2 := Lib.hid hb
          have HAx2 := Lib.hid (hk.blk HAx1.out (by omega))
          have HKx2 := Lib.hid (Keeps.below HKx1.out hk HKx1.out.size (by intro k h; subst h; have := HS.out; omega))
          clear hb hk HAx1 HBx1 HKx1
          have HOK5 := Lib.hid (outUse_ok HOK.out x)
          generalize outUse n x = n5 at *
          go_wp2_with fail
          refine (may_any _ n5 _ HAx2.out).mono ?_
          rintro e w' ⟨rfl, rfl⟩
          go_wp2_with fail
          refine (mayr_any _ n5 _ HBx2.out).mono ?_
          rintro e w' ⟨rfl, rfl⟩
          go_wp2_with fail
          go_roundg k'
          case measure => omega
          case rel => exact ⟨i + 1, n5, by have := HI.out; omega, by go_num, HOK5.out, HAx2.out, HBx2.out, HKx2.out⟩
        · have hq0' : (q % 3 == 0) = false := by simp [hq0]
          clear hq0
          by_cases hq1 : q % 3 = 1
          · have hq1' : (q % 3 == 1) = true := by simp [hq1]
            clear hq1
            go_wp2_with fail
            refine (grow_any _ n x _ HA4.out HOK.out hx0 hx1).mono ?_
            rintro e wx1 ⟨rfl, hb, hk⟩
            have HAx1 := Lib.hid hb
            have HBx1 := Lib.hid (hk.blk HB4.out (by omega))
            have HKx1 := Lib.hid (Keeps.below HK4.out hk HK4.out.size (by intro k h; subst h; exact HS.out))
            clear hb hk HA4 HB4 HK4
            go_wp2_with fail
            refine (growr_any _ n x _ HBx1.out HOK.out hx0 hx1).mono ?_
            rintro e wx2 ⟨rfl, hb, hk⟩
            have HBx2 := Lib.hid hb
            have HAx2 := Lib.hid (hk.blk HAx1.out (by omega))
            have HKx2 := Lib.hid (Keeps.below HKx1.out hk HKx1.out.size (by intro k h; subst h; have := HS.out; omega))
            clear hb hk HAx1 HBx1 HKx1
            have HOK5 := Lib.hid (outGrow_ok HOK.out x)
            generalize outGrow n x = n5 at *
            go_wp2_with fail
            refine (may_any _ n5 _ HAx2.out).mono ?_
            rintro e w' ⟨rfl, rfl⟩
            go_wp2_with fail
            refine (mayr_any _ n5 _ HBx2.out).mono ?_
            rintro e w' ⟨rfl, rfl⟩
            go_wp2_with fail
            go_roundg k'
            case measure => omega
            case rel => exact ⟨i + 1, n5, by have := HI.out; omega, by go_num, HOK5.out, HAx2.out, HBx2.out, HKx2.out⟩
          · have hq1' : (q % 3 == 1) = false := by simp [hq1]
            clear hq1
            go_wp2_with fail
            refine (shift_any _ n x _ HA4.out HOK.out hx0 hx1).mono ?_
            rintro e wx1 ⟨rfl, hb, hk⟩
            have HAx1 := Lib.hid hb
            have HBx1 := Lib.hid (hk.blk HB4.out (by omega))
            have HKx1 := Lib.hid (Keeps.below HK4.out hk HK4.out.size (by intro k h; subst h; exact HS.out))
            clear hb hk HA4 HB4 HK4
            go_wp2_with fail
            refine (shiftr_any _ n x _ HBx1.out HOK.out hx0 hx1).mono ?_
            rintro e wx2 ⟨rfl, hb, hk⟩
            have HBx2 := Lib.hid hb
            have HAx2 := Lib.hid (hk.blk HAx1.out (by omega))
            have HKx2 := Lib.hid (Keeps.below HKx1.out hk HKx1.out.size (by intro k h; subst h; have := HS.out; omega))
            clear hb hk HAx1 HBx1 HKx1
            have HOK5 := Lib.hid (outShift_ok HOK.out x)
            generalize outShift n x = n5 at *
            go_wp2_with fail
            refine (may_any _ n5 _ HAx2.out).mono ?_
            rintro e w' ⟨rfl, rfl⟩
            go_wp2_with fail
            refine (mayr_any _ n5 _ HBx2.out).mono ?_
            rintro e w' ⟨rfl, rfl⟩
            go_wp2_with fail
            go_roundg k'
            case measure => omega
            case rel => exact ⟨i + 1, n5, by have := HI.out; omega, by go_num, HOK5.out, HAx2.out, HBx2.out, HKx2.out⟩
      · go_wp2_with fail
        go_returns
        exact ⟨rfl, HK0.out⟩

set_option maxRecDepth 100000 in
set_option maxHeartbeats 2000000 in
theorem walkWindowIns (w : World) (a0 : Int) (w0 : (Lit.int .i64 a0).wf = true) (v1 : Value) (hv : Arg Try.prog w 22 v1) :
    Calls Try.prog 4 #[.int .i64 a0, v1] w fun e w' => e = .returned (.bool true) ∧ Below w.heap.size w w' := by
  obtain ⟨h0, h0'⟩ := wf_i64_iff w0
  clear w0
  obtain ⟨ad, len, cap, V, rfl, hl, hcap, hseen, hrd⟩ := act_of hv
  clear hv
  have HSEEN := Lib.hid hseen
  have HRD := Lib.hid hrd
  clear hseen hrd
  unfold maxLen at hcap
  by_cases hlong : 60 < len
  · go_enter Try.func4, Try.ntmps4
    go_wp2_with fail
    refine (known_any w).mono ?_
    rintro e w1 ⟨rfl, hk⟩
    have HK := Lib.hid hk
    clear hk
    go_wp2_with fail
    go_returns
    exact ⟨rfl, HK.out⟩
  · go_enter Try.func4, Try.ntmps4
    go_wp2_with fail
    refine (known_any w).mono ?_
    rintro e w1 ⟨rfl, hk⟩
    have HK := Lib.hid hk
    have HS := Lib.hid hk.size
    clear hk
    go_wp2_with fail
    refine (innew_any a0 _).mono ?_
    rintro e w2 ⟨rfl, hw2⟩
    have HA2 : Hid (Blk w2 w1.heap.size ((inNew a0).cells) 49) := by rw [hw2]; exact Blk.new _ _ _
    have HK2 : Hid (Below w.heap.size w w2) := by rw [hw2]; exact HK.out.alloc HK.out.size _
    have hsz : w2.heap.size = w1.heap.size + 1 := by rw [hw2]; simp
    clear hw2
    go_wp2_with fail
    refine (innewr_any a0 _).mono ?_
    rintro e w3 ⟨rfl, hw3⟩
    have HA3 : Hid (Blk w3 w1.heap.size ((inNew a0).cells) 49) := by rw [hw3]; exact HA2.out.alloc _
    have HB3 : Hid (Blk w3 (w1.heap.size + 1) ((inNew a0).cells) 39) := by rw [hw3, ← hsz]; exact Blk.new _ _ _
    have HK3 : Hid (Below w.heap.size w w3) := by rw [hw3]; exact HK2.out.alloc HK2.out.size _
    rw [hsz]
    clear hw3 hsz HA2 HK2
    go_wp2_with fail
    have HOK3 := Lib.hid (inNew_ok a0)
    generalize inNew a0 = n0 at *
    go_loopg [7] len (fun k vi wr => ∃ (i : Nat) (c : IN), k + i = len ∧ vi = .int .i64 i ∧ c.ok ∧ Blk wr w1.heap.size c.cells 49 ∧ Blk wr (w1.heap.size + 1) c.cells 39 ∧ Below w.heap.size w wr)
    case atStart => exact ⟨0, _, by omega, rfl, HOK3.out, HA3.out, HB3.out, HK3.out⟩
    case round =>
      obtain ⟨i, c, hi, rfl, hok, hb, hd, hk⟩ := hrel
      have HA0 := Lib.hid hb
      have HB0 := Lib.hid hd
      have HK0 := Lib.hid hk
      have HI := Lib.hid hi
      have HOK := Lib.hid hok
      clear hb hd hk hi hok HA3 HB3 HK3 HOK3
      by_cases hil : i < len
      · obtain ⟨q, m, e0, e1, hq, hm⟩ := HRD.out i (by omega)
        obtain ⟨b, off, rfl, hblt, hcell⟩ := HSEEN.out.resolve_left (by omega)
        have c0 := hcell i 0 (by omega) (by omega)
        have c1 := hcell i 1 (by omega) (by omega)
        rw [e0, ← HK0.out.cell hblt] at c0
        rw [e1, ← HK0.out.cell hblt] at c1
        rw [Nat.add_zero] at c0
        clear hcell e0 e1
        obtain ⟨k', rfl⟩ : ∃ k', gk = k' + 1 := ⟨gk - 1, by have := HI.out; omega⟩
        obtain ⟨hx0, hx1⟩ := nearV_bd q m hm.1 hm.2
        go_wp2_with fail
        refine (near_any q m _ hq.1 hq.2).mono ?_
        rintro e w4 ⟨rfl, hw4⟩
        have d0 : w4.cell? ⟨b, off + i * 2, none⟩ = some (.int .u8 q) := by rw [hw4]; exact (((HK0.out.alloc HK0.out.size _).cell (p := ⟨b, off + i * 2, none⟩) hblt).trans ((HK0.out.cell (p := ⟨b, off + i * 2, none⟩) hblt).symm)).trans c0
        have HA4 := Lib.hid (HA0.out.alloc (.cells #[.int .u8 q, .int .i64 m] 29 (0, 0)))
        have HB4 := Lib.hid (HB0.out.alloc (.cells #[.int .u8 q, .int .i64 m] 29 (0, 0)))
        have HK4 : Hid (Below w.heap.size w (wr.alloc (.cells #[.int .u8 q, .int .i64 m] 29 (0, 0)))) := HK0.out.alloc HK0.out.size _
        rw [← hw4] at HA4 HB4 HK4
        clear hw4 c0 c1 HA0 HB0 HK0
        generalize nearV q m = x at *
        by_cases hq0 : q % 2 = 0
        · have hq0' : (q % 2 == 0) = true := by simp [hq0]
          clear hq0
          go_wp2_with fail
          refine (take_any _ c x _ HA4.out HOK.out hx0 hx1).mono ?_
          rintro e wx1 ⟨rfl, hb, hk⟩
          have HAx1 := Lib.hid hb
          have HBx1 := Lib.hid (hk.blk HB4.out (by omega))
          have HKx1 := Lib.hid (Keeps.below HK4.out hk HK4.out.size (by intro k h; subst h; exact HS.out))
          clear hb hk HA4 HB4 HK4
          go_wp2_with fail
          refine (taker_any _ c x _ HBx1.out HOK.out hx0 hx1).mono ?_
          rintro e wx2 ⟨rfl, hb, hk⟩
          have HBx2 := Lib.hid hb
          have HAx2 := Lib.hid (hk.blk HAx1.out (by omega))
          have HKx2 := Lib.hid (Keeps.below HKx1.out hk HKx1.out.size (by intro k h; subst h; have := HS.out; omega))
          clear hb hk HAx1 HBx1 HKx1
          have HOK5 := Lib.hid (IN.take_ok HOK.out x)
          generalize IN.take c x = c5 at *
          obtain ⟨o0, o1, o2, o3, o4, o5⟩ := HOK5.out
          obtain ⟨⟨g0, g1, g2, g3⟩, _⟩ := in_cells HBx2.out
          have hsum : (c5.left + c5.came + c5.used == c5.size) = true := by simp; omega
          have b1 : c5.left ≤ 2147483647 := by omega
          have b2 : c5.left + c5.came ≤ 2147483647 := by omega
          have b3 : c5.left + c5.came + c5.used ≤ 2147483647 := by omega
          have hne : (c5.left + c5.came + c5.used != c5.size) = false := by simp; omega
          clear o5 hsum
          go_wp2_with fail
          go_quiet (first | (go_at_call 26; exact quiet_same (left_any _ c5 _ (HAx2.out.drewN _))))
          go_wp2_with fail
          go_roundg k'
          case measure => omega
          case rel => exact ⟨i + 1, c5, by have := HI.out; omega, by go_num, HOK5.out, HAx2.out.drewN _, HBx2.out.drewN _, below_drewN HKx2.out _⟩
        · have hq0' : (q % 2 == 0) = false := by simp [hq0]
          clear hq0
          go_wp2_with fail
          refine (done_any _ c x _ HA4.out HOK.out hx0 hx1).mono ?_
          rintro e wx1 ⟨rfl, hb, hk⟩
          have HAx1 := Lib.hid hb
          have HBx1 := Lib.hid (hk.blk HB4.out (by omega))
          have HKx1 := Lib.hid (Keeps.below HK4.out hk HK4.out.size (by intro k h; subst h; exact HS.out))
          clear hb hk HA4 HB4 HK4
          go_wp2_with fail
          refine (doner_any _ c x _ HBx1.out HOK.out hx0 hx1).mono ?_
          rintro e wx2 ⟨rfl, hb, hk⟩
          have HBx2 := Lib.hid hb
          have HAx2 := Lib.hid (hk.blk HAx1.out (by omega))
          have HKx2 := Lib.hid (Keeps.below HKx1.out hk HKx1.out.size (by intro k h; subst h; have := HS.out; omega))
          clear hb hk HAx1 HBx1 HKx1
          have HOK5 := Lib.hid (IN.done_ok HOK.out x)
          generalize IN.done c x = c5 at *
          obtain ⟨o0, o1, o2, o3, o4, o5⟩ := HOK5.out
          obtain ⟨⟨g0, g1, g2, g3⟩, _⟩ := in_cells HBx2.out
          have hsum : (c5.left + c5.came + c5.used == c5.size) = true := by simp; omega
          have b1 : c5.left ≤ 2147483647 := by omega
          have b2 : c5.left + c5.came ≤ 2147483647 := by omega
          have b3 : c5.left + c5.came + c5.used ≤ 2147483647 := by omega
          have hne : (c5.left + c5.came + c5.used != c5.size) = false := by simp; omega
          clear o5 hsum
          go_wp2_with fail
          go_quiet (first | (go_at_call 26; exact quiet_same (left_any _ c5 _ (HAx2.out.drewN _))))
          go_wp2_with fail
          go_roundg k'
          case measure => omega
          case rel => exact ⟨i + 1, c5, by have := HI.out; omega, by go_num, HOK5.out, HAx2.out.drewN _, HBx2.out.drewN _, below_drewN HKx2.out _⟩
      · go_wp2_with fail
        go_returns
        exact ⟨rfl, HK0.out⟩

end Go.Proofs.Ytnecdcnokihgoaa
