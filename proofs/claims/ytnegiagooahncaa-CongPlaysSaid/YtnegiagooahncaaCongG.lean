/- The walk of CongPlays. -/
import Derived.Test.YtnegiagooahncaaCongF
namespace Go.Proofs.Ytnegiagooahncaa
open Go.RowKit

set_option maxRecDepth 100000 in
set_option maxHeartbeats 2000000 in
theorem walkCongPlays (w : World) (a0 : Int) (w0 : (Lit.int .i64 a0).wf = true) (v1 : Value) (hv : Arg Try.prog w 27 v1) (a2 : Int) (w2 : (Lit.int .i64 a2).wf = true) (a3 : Int) (w3 : (Lit.int .i64 a3).wf = true) :
    Calls Try.prog 6 #[.int .i64 a0, v1, .int .i64 a2, .int .i64 a3] w fun e w' => e = .returned (.bool true) ∧ Below w.heap.size w w' := by
  obtain ⟨h0, h0'⟩ := wf_i64_iff w0
  obtain ⟨h2, h2'⟩ := wf_i64_iff w2
  obtain ⟨h3, h3'⟩ := wf_i64_iff w3
  clear w0 w2 w3
  obtain ⟨ad, len, cap, V, rfl, hl, hcap, hseen, hrd⟩ := act_of hv
  clear hv
  have HSEEN := Lib.hid hseen
  have HRD := Lib.hid hrd
  clear hseen hrd
  unfold maxLen at hcap
  by_cases hlong : 80 < len
  · go_enter Try.func6, Try.ntmps6
    go_wp2_with fail
    refine (known_any w).mono ?_
    rintro e w1 ⟨rfl, hk⟩
    have HK := Lib.hid hk
    clear hk
    go_wp2_with fail
    go_returns
    exact ⟨rfl, HK.out⟩
  · obtain ⟨t1, t2⟩ := tmod_bd a0 1500 (by omega)
    go_enter Try.func6, Try.ntmps6
    go_wp2_with fail
    refine (known_any w).mono ?_
    rintro e w1 ⟨rfl, hk⟩
    have HK := Lib.hid hk
    clear hk
    go_wp2_with fail
    refine (new_any (a0.tmod 1500) _ (by omega) (by omega)).mono ?_
    rintro e w2 ⟨rfl, hw2⟩
    have HB : Hid (Blk w2 w1.heap.size (cgNew (a0.tmod 1500)).cells 47) := by
      rw [hw2]
      exact Blk.new w1 (cgNew (a0.tmod 1500)).cells 47
    have HK2 : Hid (Below w.heap.size w w2) := by rw [hw2]; exact HK.out.alloc HK.out.size _
    have HS := Lib.hid HK.out.size
    have HS2 : Hid (w2.heap.size = w1.heap.size + 1) := by show _ = _; rw [hw2]; simp
    clear hw2
    go_wp2_with fail
    refine (newr_any (a0.tmod 1500) _ (by omega) (by omega)).mono ?_
    rintro e w3 ⟨rfl, hw3⟩
    have HB3 : Hid (Blk w3 w1.heap.size (cgNew (a0.tmod 1500)).cells 47) := by
      rw [hw3]
      exact HB.out.alloc _
    have HD3 : Hid (Blk w3 (w1.heap.size + 1) (cgNew (a0.tmod 1500)).cells 40) := by
      rw [hw3, ← HS2.out]
      exact Blk.new w2 (cgNew (a0.tmod 1500)).cells 40
    have HK3 : Hid (Below w.heap.size w w3) := by rw [hw3]; exact HK2.out.alloc HK2.out.size _
    have HOK3 := Lib.hid (cgNew_ok (a0.tmod 1500))
    rw [HS2.out]
    clear hw3 HB HK2
    go_wp2_with fail
    generalize cgNew (a0.tmod 1500) = c0 at *
    go_loopg [11] len (fun k vi wr => ∃ (i : Nat) (c : CG), k + i = len ∧ vi = .int .i64 i ∧ c.ok ∧ Blk wr w1.heap.size c.cells 47 ∧ Blk wr (w1.heap.size + 1) c.cells 40 ∧ Below w.heap.size w wr)
    case atStart => exact ⟨0, _, by omega, rfl, HOK3.out, HB3.out, HD3.out, HK3.out⟩
    case round =>
      obtain ⟨i, c, hi, rfl, hok, hb, hd, hk⟩ := hrel
      have hlt2 := hd.lt
      have HB0 := Lib.hid hb
      have HD0 := Lib.hid hd
      have HK0 := Lib.hid hk
      have HI := Lib.hid hi
      have HOK := Lib.hid hok
      clear hb hd hk hi hok HB3 HD3 HK3 HOK3
      by_cases hil : i < len
      · obtain ⟨q, m, x, y, e0, e1, e2, e3, hq, hm, hx, hy⟩ := HRD.out i (by omega)
        obtain ⟨b, off, rfl, hblt, hcell⟩ := HSEEN.out.resolve_left (by omega)
        have c0 := hcell i 0 (by omega) (by omega)
        have c1 := hcell i 1 (by omega) (by omega)
        have c2 := hcell i 2 (by omega) (by omega)
        have c3 := hcell i 3 (by omega) (by omega)
        rw [e0, ← HK0.out.cell hblt] at c0
        rw [e1, ← HK0.out.cell hblt] at c1
        rw [e2, ← HK0.out.cell hblt] at c2
        rw [e3, ← HK0.out.cell hblt] at c3
        rw [Nat.add_zero] at c0
        clear hcell e0 e1 e2 e3
        obtain ⟨k', rfl⟩ : ∃ k', gk = k' + 1 := ⟨gk - 1, by have := HI.out; omega⟩
        have HX : Hid (Blk (wr.alloc (.cells #[.int .u8 q, .int .i64 m, .int .u16 x, .int .u16 y] 33 (0, 0))) wr.heap.size #[.int .u8 q, .int .i64 m, .int .u16 x, .int .u16 y] 33) := Blk.new _ _ _
        have HB4 : Hid (Blk (wr.alloc (.cells #[.int .u8 q, .int .i64 m, .int .u16 x, .int .u16 y] 33 (0, 0))) w1.heap.size c.cells 47) := HB0.out.alloc _
        have HD4 : Hid (Blk (wr.alloc (.cells #[.int .u8 q, .int .i64 m, .int .u16 x, .int .u16 y] 33 (0, 0))) (w1.heap.size + 1) c.cells 40) := HD0.out.alloc _
        have HK4 : Hid (Below w.heap.size w (wr.alloc (.cells #[.int .u8 q, .int .i64 m, .int .u16 x, .int .u16 y] 33 (0, 0)))) := HK0.out.alloc HK0.out.size _
        have HX : Hid (Blk (wr.alloc (.cells #[.int .u8 q, .int .i64 m, .int .u16 x, .int .u16 y] 33 (0, 0))) wr.heap.size #[.int .u8 q, .int .i64 m, .int .u16 x, .int .u16 y] 33) := Blk.new _ _ _
        have HB4 : Hid (Blk (wr.alloc (.cells #[.int .u8 q, .int .i64 m, .int .u16 x, .int .u16 y] 33 (0, 0))) w1.heap.size c.cells 47) := HB0.out.alloc _
        have HD4 : Hid (Blk (wr.alloc (.cells #[.int .u8 q, .int .i64 m, .int .u16 x, .int .u16 y] 33 (0, 0))) (w1.heap.size + 1) c.cells 40) := HD0.out.alloc _
        have HK4 : Hid (Below w.heap.size w (wr.alloc (.cells #[.int .u8 q, .int .i64 m, .int .u16 x, .int .u16 y] 33 (0, 0)))) := HK0.out.alloc HK0.out.size _
        by_cases hq3 : q % 5 = 3
        · have hq3' : (q % 5 == 3) = true := by simp [hq3]
          clear hq3
          go_wp2_with fail
          refine (lost_any _ c x y _ HB4.out HOK.out).mono ?_
          rintro e w4 ⟨rfl, hb5, hk5⟩
          have HB4' := Lib.hid hb5
          have HD4' := Lib.hid (hk5.blk HD4.out (by omega))
          have hx := hk5.blk HX.out (by omega)
          have HK4' := Lib.hid (Keeps.below HK4.out hk5 HK4.out.size (by intro k h; subst h; exact HS.out))
          have hX0 : w4.cell? ⟨wr.heap.size, 0, none⟩ = some (.int .u8 q) := by rw [hx.cell]; rfl
          have hX1 : w4.cell? ⟨wr.heap.size, 1, none⟩ = some (.int .i64 m) := by rw [hx.cell]; rfl
          have hX2 : w4.cell? ⟨wr.heap.size, 2, none⟩ = some (.int .u16 x) := by rw [hx.cell]; rfl
          have hX3 : w4.cell? ⟨wr.heap.size, 3, none⟩ = some (.int .u16 y) := by rw [hx.cell]; rfl
          clear hb5 hk5 hx
          go_wp2_with fail
          refine (lostr_any _ c x y _ HD4'.out HOK.out).mono ?_
          rintro e w5 ⟨rfl, hd5, hk5⟩
          have HD5 := Lib.hid hd5
          have HB5 := Lib.hid (hk5.blk HB4'.out (by omega))
          have HK5 := Lib.hid (Keeps.below HK4'.out hk5 HK4'.out.size (by intro k h; subst h; have := HS.out; omega))
          clear hd5 hk5 hX0 hX1 hX2 hX3 HB4' HD4' HK4'
          have HOKX : Hid (c.lost x y).ok := CG.lost_ok HOK.out _ _ (by omega) (by omega)
          have HOK5 : Hid (c.lost x y).ok := HOKX
          clear HOKX
          generalize c.lost x y = c' at *
          obtain ⟨o1, o2, o3, o4, o5, o6, o7, o8⟩ := HOK5.out
          have hlt : (c'.W < 2 * c'.s) = False := by simp; omega
          have cW : w5.cell? ⟨w1.heap.size + 1, 1, none⟩ = some (.int .i64 c'.W) := (cells_of HD5.out).1.2.1
          have cS : w5.cell? ⟨w1.heap.size + 1, 0, none⟩ = some (.int .i64 c'.s) := (cells_of HD5.out).1.1
          go_wp2_with fail
          go_quiet (first
            | (go_at_call 13; exact quiet_same (window_any _ c' _ (HB5.out.drewN _)))
            | (go_at_call 20; exact quiet_same (may_any _ c' _ _ _ (HB5.out.drewN _) HOK5.out))
            | (go_at_call 21; exact quiet_same (mayr_any _ c' _ _ _ (HD5.out.drewN _) HOK5.out)))
          go_wp2_with fail
          go_roundg k'
          case measure => omega
          case rel => exact ⟨i + 1, c', by have := HI.out; omega, by go_num, HOK5.out, HB5.out.drewN _, HD5.out.drewN _, below_drewN HK5.out _⟩
        · have hq3' : (q % 5 == 3) = false := by simp [hq3]
          clear hq3
          by_cases hq4 : q % 5 = 4
          · have hq4' : (q % 5 == 4) = true := by simp [hq4]
            clear hq4
            go_wp2_with fail
            refine (collapse_any _ c _ HB4.out HOK.out).mono ?_
            rintro e w4 ⟨rfl, hb5, hk5⟩
            have HB4' := Lib.hid hb5
            have HD4' := Lib.hid (hk5.blk HD4.out (by omega))
            have hx := hk5.blk HX.out (by omega)
            have HK4' := Lib.hid (Keeps.below HK4.out hk5 HK4.out.size (by intro k h; subst h; exact HS.out))
            have hX0 : w4.cell? ⟨wr.heap.size, 0, none⟩ = some (.int .u8 q) := by rw [hx.cell]; rfl
            have hX1 : w4.cell? ⟨wr.heap.size, 1, none⟩ = some (.int .i64 m) := by rw [hx.cell]; rfl
            have hX2 : w4.cell? ⟨wr.heap.size, 2, none⟩ = some (.int .u16 x) := by rw [hx.cell]; rfl
            have hX3 : w4.cell? ⟨wr.heap.size, 3, none⟩ = some (.int .u16 y) := by rw [hx.cell]; rfl
            clear hb5 hk5 hx
            go_wp2_with fail
            refine (collapser_any _ c _ HD4'.out HOK.out).mono ?_
            rintro e w5 ⟨rfl, hd5, hk5⟩
            have HD5 := Lib.hid hd5
            have HB5 := Lib.hid (hk5.blk HB4'.out (by omega))
            have HK5 := Lib.hid (Keeps.below HK4'.out hk5 HK4'.out.size (by intro k h; subst h; have := HS.out; omega))
            clear hd5 hk5 hX0 hX1 hX2 hX3 HB4' HD4' HK4'
            have HOKX : Hid (c.collapse).ok := CG.collapse_ok HOK.out
            have HOK5 : Hid (c.collapse).ok := HOKX
            clear HOKX
            generalize c.collapse = c' at *
            obtain ⟨o1, o2, o3, o4, o5, o6, o7, o8⟩ := HOK5.out
            have hlt : (c'.W < 2 * c'.s) = False := by simp; omega
            have cW : w5.cell? ⟨w1.heap.size + 1, 1, none⟩ = some (.int .i64 c'.W) := (cells_of HD5.out).1.2.1
            have cS : w5.cell? ⟨w1.heap.size + 1, 0, none⟩ = some (.int .i64 c'.s) := (cells_of HD5.out).1.1
            go_wp2_with fail
            go_quiet (first
              | (go_at_call 13; exact quiet_same (window_any _ c' _ (HB5.out.drewN _)))
              | (go_at_call 20; exact quiet_same (may_any _ c' _ _ _ (HB5.out.drewN _) HOK5.out))
              | (go_at_call 21; exact quiet_same (mayr_any _ c' _ _ _ (HD5.out.drewN _) HOK5.out)))
            go_wp2_with fail
            go_roundg k'
            case measure => omega
            case rel => exact ⟨i + 1, c', by have := HI.out; omega, by go_num, HOK5.out, HB5.out.drewN _, HD5.out.drewN _, below_drewN HK5.out _⟩
          · have hq4' : (q % 5 == 4) = false := by simp [hq4]
            clear hq4
            obtain ⟨t3, t4⟩ := tmod_bd m 5000 (by omega)
            by_cases hz : 0 < q / 8 % 4
            · go_wp2_with fail
              refine (acked_any _ c (m.tmod 5000) x _ HB4.out HOK.out (by omega) (by omega)).mono ?_
              rintro e w4 ⟨rfl, hb5, hk5⟩
              have HB4' := Lib.hid hb5
              have HD4' := Lib.hid (hk5.blk HD4.out (by omega))
              have hx := hk5.blk HX.out (by omega)
              have HK4' := Lib.hid (Keeps.below HK4.out hk5 HK4.out.size (by intro k h; subst h; exact HS.out))
              have hX0 : w4.cell? ⟨wr.heap.size, 0, none⟩ = some (.int .u8 q) := by rw [hx.cell]; rfl
              have hX1 : w4.cell? ⟨wr.heap.size, 1, none⟩ = some (.int .i64 m) := by rw [hx.cell]; rfl
              have hX2 : w4.cell? ⟨wr.heap.size, 2, none⟩ = some (.int .u16 x) := by rw [hx.cell]; rfl
              have hX3 : w4.cell? ⟨wr.heap.size, 3, none⟩ = some (.int .u16 y) := by rw [hx.cell]; rfl
              clear hb5 hk5 hx
              go_wp2_with fail
              refine (ackedr_any _ c (m.tmod 5000) x _ HD4'.out HOK.out (by omega) (by omega)).mono ?_
              rintro e w5 ⟨rfl, hd5, hk5⟩
              have HD5 := Lib.hid hd5
              have HB5 := Lib.hid (hk5.blk HB4'.out (by omega))
              have HK5 := Lib.hid (Keeps.below HK4'.out hk5 HK4'.out.size (by intro k h; subst h; have := HS.out; omega))
              clear hd5 hk5 hX0 hX1 hX2 hX3 HB4' HD4' HK4'
              have HOKX : Hid (c.acked (m.tmod 5000) x).ok := CG.acked_ok HOK.out _ _
              have HOK5 : Hid (c.acked (m.tmod 5000) x).ok := HOKX
              clear HOKX
              generalize c.acked (m.tmod 5000) x = c' at *
              obtain ⟨o1, o2, o3, o4, o5, o6, o7, o8⟩ := HOK5.out
              have hlt : (c'.W < 2 * c'.s) = False := by simp; omega
              have cW : w5.cell? ⟨w1.heap.size + 1, 1, none⟩ = some (.int .i64 c'.W) := (cells_of HD5.out).1.2.1
              have cS : w5.cell? ⟨w1.heap.size + 1, 0, none⟩ = some (.int .i64 c'.s) := (cells_of HD5.out).1.1
              go_wp2_with fail
              go_quiet (first
                | (go_at_call 13; exact quiet_same (window_any _ c' _ (HB5.out.drewN _)))
                | (go_at_call 20; exact quiet_same (may_any _ c' _ _ _ (HB5.out.drewN _) HOK5.out))
                | (go_at_call 21; exact quiet_same (mayr_any _ c' _ _ _ (HD5.out.drewN _) HOK5.out)))
              go_wp2_with fail
              go_roundg k'
              case measure => omega
              case rel => exact ⟨i + 1, c', by have := HI.out; omega, by go_num, HOK5.out, HB5.out.drewN _, HD5.out.drewN _, below_drewN HK5.out _⟩
            · go_wp2_with fail
              refine (acked_any _ c m x _ HB4.out HOK.out (by omega) (by omega)).mono ?_
              rintro e w4 ⟨rfl, hb5, hk5⟩
              have HB4' := Lib.hid hb5
              have HD4' := Lib.hid (hk5.blk HD4.out (by omega))
              have hx := hk5.blk HX.out (by omega)
              have HK4' := Lib.hid (Keeps.below HK4.out hk5 HK4.out.size (by intro k h; subst h; exact HS.out))
              have hX0 : w4.cell? ⟨wr.heap.size, 0, none⟩ = some (.int .u8 q) := by rw [hx.cell]; rfl
              have hX1 : w4.cell? ⟨wr.heap.size, 1, none⟩ = some (.int .i64 m) := by rw [hx.cell]; rfl
              have hX2 : w4.cell? ⟨wr.heap.size, 2, none⟩ = some (.int .u16 x) := by rw [hx.cell]; rfl
              have hX3 : w4.cell? ⟨wr.heap.size, 3, none⟩ = some (.int .u16 y) := by rw [hx.cell]; rfl
              clear hb5 hk5 hx
              go_wp2_with fail
              refine (ackedr_any _ c m x _ HD4'.out HOK.out (by omega) (by omega)).mono ?_
              rintro e w5 ⟨rfl, hd5, hk5⟩
              have HD5 := Lib.hid hd5
              have HB5 := Lib.hid (hk5.blk HB4'.out (by omega))
              have HK5 := Lib.hid (Keeps.below HK4'.out hk5 HK4'.out.size (by intro k h; subst h; have := HS.out; omega))
              clear hd5 hk5 hX0 hX1 hX2 hX3 HB4' HD4' HK4'
              have HOKX : Hid (c.acked m x).ok := CG.acked_ok HOK.out _ _
              have HOK5 : Hid (c.acked m x).ok := HOKX
              clear HOKX
              generalize c.acked m x = c' at *
              obtain ⟨o1, o2, o3, o4, o5, o6, o7, o8⟩ := HOK5.out
              have hlt : (c'.W < 2 * c'.s) = False := by simp; omega
              have cW : w5.cell? ⟨w1.heap.size + 1, 1, none⟩ = some (.int .i64 c'.W) := (cells_of HD5.out).1.2.1
              have cS : w5.cell? ⟨w1.heap.size + 1, 0, none⟩ = some (.int .i64 c'.s) := (cells_of HD5.out).1.1
              go_wp2_with fail
              go_quiet (first
                | (go_at_call 13; exact quiet_same (window_any _ c' _ (HB5.out.drewN _)))
                | (go_at_call 20; exact quiet_same (may_any _ c' _ _ _ (HB5.out.drewN _) HOK5.out))
                | (go_at_call 21; exact quiet_same (mayr_any _ c' _ _ _ (HD5.out.drewN _) HOK5.out)))
              go_wp2_with fail
              go_roundg k'
              case measure => omega
              case rel => exact ⟨i + 1, c', by have := HI.out; omega, by go_num, HOK5.out, HB5.out.drewN _, HD5.out.drewN _, below_drewN HK5.out _⟩
      · go_wp2_with fail
        go_returns
        exact ⟨rfl, HK0.out⟩

end Go.Proofs.Ytnegiagooahncaa
