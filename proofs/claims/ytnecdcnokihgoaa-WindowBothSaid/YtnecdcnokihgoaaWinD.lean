/- The walks of WindowBoth, WindowHalf, WindowEdges. -/
import Derived.Test.YtnecdcnokihgoaaWinC
namespace Go.Proofs.Ytnecdcnokihgoaa
open Go.RowKit

theorem half_bd (s : Int) (h : 1 ≤ s) : 1 ≤ half s ∧ half s ≤ s ∧ 2 * half s ≤ s + 1 := by unfold half; split <;> omega

theorem take_eq (s l c u k : Int) (h : 0 ≤ k ∧ k ≤ l) : IN.take ⟨s, l, c, u⟩ k = ⟨s, l - k, c + k, u⟩ ∧ IN.takeOK ⟨s, l, c, u⟩ k = true := by
  refine ⟨?_, by simp only [IN.takeOK, decide_eq_true_eq]; exact h⟩
  unfold IN.take
  rw [if_pos h]

set_option maxRecDepth 100000 in
set_option maxHeartbeats 2000000 in
theorem walkWindowBoth (w : World) (a0 : Int) (w0 : (Lit.int .u16 a0).wf = true) (v1 : Value) (hv : Arg Try.prog w 41 v1) :
    Calls Try.prog 5 #[.int .u16 a0, v1] w fun e w' => e = .returned (.bool true) ∧ Below w.heap.size w w' := by
  obtain ⟨h0, h0'⟩ := wf_u16_iff w0
  clear w0
  obtain ⟨ad, len, cap, V, rfl, hl, hcap, hseen, hrd⟩ := (hv.rd_slice Try.underlying41).row Try.underlying41 (by kernel_rfl)
  clear hv
  have HSEEN := Lib.hid hseen
  have HRD := Lib.hid hrd
  clear hseen hrd
  unfold maxLen at hcap
  by_cases hlong : 100 < len
  · go_enter Try.func5, Try.ntmps5
    go_wp2_with fail
    refine (known_any w).mono ?_
    rintro e w1 ⟨rfl, hk⟩
    have HK := Lib.hid hk
    clear hk
    go_wp2_with fail
    go_returns
    exact ⟨rfl, HK.out⟩
  · go_enter Try.func5, Try.ntmps5
    go_wp2_with fail
    refine (known_any w).mono ?_
    rintro e w1 ⟨rfl, hk⟩
    have HK := Lib.hid hk
    have HS := Lib.hid hk.size
    clear hk
    go_wp2_with fail
    refine (outnew_any (a0 + 1) _ (by omega) (by omega)).mono ?_
    rintro e w2 ⟨rfl, hw2⟩
    have eo : outNew (a0 + 1) = a0 + 1 := by unfold outNew; rw [if_neg (by split <;> omega), if_neg (by omega)]
    have HA2 : Hid (Blk w2 w1.heap.size (outCells (a0 + 1)) 45) := by rw [hw2, eo]; exact Blk.new _ _ _
    have HK2 : Hid (Below w.heap.size w w2) := by rw [hw2]; exact HK.out.alloc HK.out.size _
    have hsz : w2.heap.size = w1.heap.size + 1 := by rw [hw2]; simp
    clear hw2 eo
    go_wp2_with fail
    refine (innew_any (a0 + 1) _).mono ?_
    rintro e w3 ⟨rfl, hw3⟩
    have eo : inNew (a0 + 1) = ⟨a0 + 1, a0 + 1, 0, 0⟩ := by unfold inNew inSize; rw [if_neg (by split <;> omega), if_neg (by omega)]
    have HA3 : Hid (Blk w3 w1.heap.size (outCells (a0 + 1)) 45) := by rw [hw3]; exact HA2.out.alloc _
    have HB3 : Hid (Blk w3 (w1.heap.size + 1) (IN.cells ⟨a0 + 1, a0 + 1, 0, 0⟩) 49) := by rw [hw3, ← hsz, eo]; exact Blk.new _ _ _
    have HK3 : Hid (Below w.heap.size w w3) := by rw [hw3]; exact HK2.out.alloc HK2.out.size _
    rw [hsz]
    clear hw3 hsz HA2 HK2 eo
    have hs1 : 1 ≤ a0 + 1 := by omega
    have hs2 : a0 + 1 ≤ 65536 := by omega
    go_wp2_with fail
    generalize a0 + 1 = s at *
    clear h0 h0'
    obtain ⟨hh1, hh2, hh3⟩ := half_bd s hs1
    go_loopg [8] len (fun k vi wr => ∃ (i : Nat) (l c u : Int), k + i = len ∧ vi = .int .i64 i ∧ 0 ≤ l ∧ 0 ≤ c ∧ 0 ≤ u ∧ l + c + u = s ∧ Blk wr w1.heap.size (outCells l) 45 ∧ Blk wr (w1.heap.size + 1) (IN.cells ⟨s, l, c, u⟩) 49 ∧ Below w.heap.size w wr)
    case atStart => exact ⟨0, s, 0, 0, by omega, rfl, by omega, by omega, by omega, by omega, HA3.out, HB3.out, HK3.out⟩
    case round =>
      obtain ⟨i, l, c, u, hi, rfl, hl0, hc0, hu0, hsum, hb, hd, hk⟩ := hrel
      have HA0 := Lib.hid hb
      have HB0 := Lib.hid hd
      have HK0 := Lib.hid hk
      have HI := Lib.hid hi
      have hls : l ≤ s := by omega
      have hcs : c + u ≤ s := by omega
      have HSUM := Lib.hid hsum
      have hmay : outMay l = l := by unfold outMay; rw [if_neg (by omega)]
      have HM := Lib.hid hmay
      clear hb hd hk hi hsum hmay HA3 HB3 HK3
      by_cases hil : i < len
      · obtain ⟨x, e0, hxw⟩ := (HRD.out i (by omega)).int Try.underlying40
        obtain ⟨hx0, hx1⟩ := wf_u16_iff hxw
        obtain ⟨b, off, rfl, hblt, hcell⟩ := HSEEN.out.resolve_left (by omega)
        have c0' := hcell i 0 (by omega) (by omega)
        rw [e0, ← HK0.out.cell hblt] at c0'
        have c0 : wr.cell? ⟨b, off + i, none⟩ = some (.int .u16 x) := by simpa using c0'
        clear hcell e0 hxw c0'
        obtain ⟨k', rfl⟩ : ∃ k', gk = k' + 1 := ⟨gk - 1, by have := HI.out; omega⟩
        have hlen : len ≤ cap := hl
        go_wp2_with fail
        go_quiet (first | (go_at_call 18; exact quiet_same (may_any _ l _ (HA0.out.drewN _))))
        obtain ⟨kk, hkk⟩ : ∃ kk, kk = (if outMay l < x % 2000 then outMay l else x % 2000) := ⟨_, rfl⟩
        have hkb : 0 ≤ kk ∧ kk ≤ l := by rw [hkk, HM.out]; split <;> omega
        rw [← hkk]
        clear hkk
        obtain ⟨hk0, hk1⟩ := hkb
        have HA1 := Lib.hid (HA0.out.drewN nq)
        have HB1 := Lib.hid (HB0.out.drewN nq)
        have HK1 := Lib.hid (below_drewN HK0.out nq)
        have e1 : outUseOK l kk = true := by simp only [outUseOK, decide_eq_true_eq, HM.out]; exact ⟨hk0, hk1⟩
        have e2 : outUse l kk = l - kk := by rw [outUse, if_pos e1]
        have E1 := Lib.hid e1
        have E2 := Lib.hid e2
        clear e1 e2
        go_wp2_with fail
        refine (use_any _ l kk _ HA1.out (by unfold OutOk; omega) (by omega) (by omega)).mono ?_
        rintro e wx1 ⟨rfl, hb, hk⟩
        rw [E2.out] at hb
        rw [E1.out]
        have HAx1 := Lib.hid hb
        have HBx1 := Lib.hid (hk.blk HB1.out (by omega))
        have HKx1 := Lib.hid (Keeps.below HK1.out hk HK1.out.size (by intro k h; subst h; exact HS.out))
        clear hb hk HA1 HB1 HK1
        go_wp2_with fail
        refine (take_any _ ⟨s, l, c, u⟩ kk _ HBx1.out (by have := HSUM.out; simp only [IN.ok]; omega) (by omega) (by omega)).mono ?_
        rintro e wx2 ⟨rfl, hb, hk⟩
        rw [(take_eq s l c u kk ⟨hk0, hk1⟩).1] at hb
        rw [(take_eq s l c u kk ⟨hk0, hk1⟩).2]
        have HBx2 := Lib.hid hb
        have HAx2 := Lib.hid (hk.blk HAx1.out (by omega))
        have HKx2 := Lib.hid (Keeps.below HKx1.out hk HKx1.out.size (by intro k h; subst h; have := HS.out; omega))
        clear hb hk HAx1 HBx1 HKx1
        have c1 : wx2.cell? ⟨b, off + i, none⟩ = some (.int .u16 x) := ((HKx2.out.cell (p := ⟨b, off + i, none⟩) hblt).trans ((HK0.out.cell (p := ⟨b, off + i, none⟩) hblt).symm)).trans c0
        clear c0
        have hok2 : (⟨s, l - kk, c + kk, u⟩ : IN).ok := by have := HSUM.out; simp only [IN.ok]; omega
        have hdn := dn_bd hok2 (x % 1000)
        have HOK2 := Lib.hid hok2
        simp only at hdn
        clear hok2
        go_wp2_with fail
        refine (done_any _ ⟨s, l - kk, c + kk, u⟩ (x % 1000) _ HBx2.out HOK2.out (by omega) (by omega)).mono ?_
        rintro e wx3 ⟨rfl, hb, hk⟩
        have HBx3 := Lib.hid hb
        have HAx3 := Lib.hid (hk.blk HAx2.out (by omega))
        have HKx3 := Lib.hid (Keeps.below HKx2.out hk HKx2.out.size (by intro k h; subst h; have := HS.out; omega))
        clear hb hk HAx2 HBx2 HKx2
        have hg : (⟨s, l - kk, c + kk, u⟩ : IN).gave (x % 1000) = if u + dn ⟨s, l - kk, c + kk, u⟩ (x % 1000) < half s then 0 else u + dn ⟨s, l - kk, c + kk, u⟩ (x % 1000) := rfl
        have hd : (⟨s, l - kk, c + kk, u⟩ : IN).done (x % 1000) = if u + dn ⟨s, l - kk, c + kk, u⟩ (x % 1000) < half s then ⟨s, l - kk, c + kk - dn ⟨s, l - kk, c + kk, u⟩ (x % 1000), u + dn ⟨s, l - kk, c + kk, u⟩ (x % 1000)⟩ else ⟨s, l - kk + (u + dn ⟨s, l - kk, c + kk, u⟩ (x % 1000)), c + kk - dn ⟨s, l - kk, c + kk, u⟩ (x % 1000), 0⟩ := rfl
        have HG := Lib.hid hg
        have HD := Lib.hid hd
        clear hg hd
        obtain ⟨hdn0, hdn1⟩ := hdn
        generalize dn ⟨s, l - kk, c + kk, u⟩ (x % 1000) = d at *
        by_cases hgd : u + d < half s
        · have eg : (⟨s, l - kk, c + kk, u⟩ : IN).gave (x % 1000) = 0 := by rw [HG.out, if_pos hgd]
          have hb := HBx3.out
          rw [HD.out, if_pos hgd] at hb
          have HB9 := Lib.hid hb
          rw [eg]
          clear hb HBx3 eg
          go_wp2_with fail
          refine (left_any _ _ _ HB9.out).mono ?_
          rintro e w' ⟨rfl, rfl⟩
          go_wp2_with fail
          refine (may_any _ _ _ HAx3.out).mono ?_
          rintro e w' ⟨rfl, rfl⟩
          rw [show outMay (l - kk) = l - kk by unfold outMay; rw [if_neg (by omega)]]
          go_wp2_with fail
          go_roundg k'
          case measure => omega
          case rel => exact ⟨i + 1, l - kk, c + kk - d, u + d, by have := HI.out; omega, by go_num, by omega, by omega, by omega, by have := HSUM.out; omega, HAx3.out, HB9.out, HKx3.out⟩
        · have eg : (⟨s, l - kk, c + kk, u⟩ : IN).gave (x % 1000) = u + d := by rw [HG.out, if_neg (by omega)]
          have hb := HBx3.out
          rw [HD.out, if_neg (by omega)] at hb
          have HB9 := Lib.hid hb
          rw [eg]
          have hud : 0 < u + d := by omega
          have hs3 : l - kk + (u + d) ≤ s := by have := HSUM.out; omega
          have e1 : outGrowOK (l - kk) (u + d) = true := by simp only [outGrowOK, decide_eq_true_eq]; omega
          have e2 : outGrow (l - kk) (u + d) = l - kk + (u + d) := by rw [outGrow, if_pos e1]
          have E3 := Lib.hid e1
          have E4 := Lib.hid e2
          clear hb HBx3 eg e1 e2
          go_wp2_with fail
          refine (grow_any _ (l - kk) (u + d) _ HAx3.out (by unfold OutOk; omega) (by omega) (by omega)).mono ?_
          rintro e wx4 ⟨rfl, hb, hk⟩
          rw [E4.out] at hb
          rw [E3.out]
          have HAx4 := Lib.hid hb
          have HBx4 := Lib.hid (hk.blk HB9.out (by omega))
          have HKx4 := Lib.hid (Keeps.below HKx3.out hk HKx3.out.size (by intro k h; subst h; exact HS.out))
          clear hb hk HAx3 HB9 HKx3
          go_wp2_with fail
          refine (left_any _ _ _ HBx4.out).mono ?_
          rintro e w' ⟨rfl, rfl⟩
          go_wp2_with fail
          refine (may_any _ _ _ HAx4.out).mono ?_
          rintro e w' ⟨rfl, rfl⟩
          rw [show outMay (l - kk + (u + d)) = l - kk + (u + d) by unfold outMay; rw [if_neg (by omega)]]
          go_wp2_with fail
          go_roundg k'
          case measure => omega
          case rel => exact ⟨i + 1, l - kk + (u + d), c + kk - d, 0, by have := HI.out; omega, by go_num, by omega, by omega, by omega, by have := HSUM.out; omega, HAx4.out, HBx4.out, HKx4.out⟩
      · have hok2 : (⟨s, l, c, u⟩ : IN).ok := by have := HSUM.out; simp only [IN.ok]; omega
        have hdc : dn ⟨s, l, c, u⟩ 1099511627776 = c := by unfold dn; simp only; rw [if_pos (by rw [if_neg (by omega)]; omega)]
        have HOK2 := Lib.hid hok2
        clear hok2
        go_wp2_with fail
        refine (done_any _ ⟨s, l, c, u⟩ 1099511627776 _ HB0.out HOK2.out (by omega) (by omega)).mono ?_
        rintro e wy1 ⟨rfl, hb, hk⟩
        have HBy1 := Lib.hid hb
        have HAy1 := Lib.hid (hk.blk HA0.out (by omega))
        have HKy1 := Lib.hid (Keeps.below HK0.out hk HK0.out.size (by intro k h; subst h; have := HS.out; omega))
        clear hb hk HA0 HB0 HK0
        have hg : (⟨s, l, c, u⟩ : IN).gave 1099511627776 = if u + c < half s then 0 else u + c := by unfold IN.gave; rw [hdc]
        have hd : (⟨s, l, c, u⟩ : IN).done 1099511627776 = if u + c < half s then ⟨s, l, c - c, u + c⟩ else ⟨s, l + (u + c), c - c, 0⟩ := by unfold IN.done; rw [hdc]
        have HG := Lib.hid hg
        have HD := Lib.hid hd
        clear hg hd hdc
        by_cases hgd : u + c < half s
        · rw [HG.out, if_pos hgd]
          have hfin : (s ≤ 2 * l) = True := by have := HSUM.out; simp; omega
          go_wp2_with fail
          refine (may_any _ _ _ HAy1.out).mono ?_
          rintro e w' ⟨rfl, rfl⟩
          rw [HM.out]
          go_wp2_with fail
          go_returns
          exact ⟨by simp [hfin], HKy1.out⟩
        · rw [HG.out, if_neg (by omega)]
          have hud : 0 < u + c := by omega
          have hs3 : l + (u + c) ≤ s := by have := HSUM.out; omega
          have hs4 : s ≤ l + (u + c) := by have := HSUM.out; omega
          have e1 : outGrowOK l (u + c) = true := by simp only [outGrowOK, decide_eq_true_eq]; omega
          have e2 : outGrow l (u + c) = l + (u + c) := by rw [outGrow, if_pos e1]
          have E3 := Lib.hid e1
          have E4 := Lib.hid e2
          clear e1 e2
          go_wp2_with fail
          refine (grow_any _ l (u + c) _ HAy1.out (by unfold OutOk; omega) (by omega) (by omega)).mono ?_
          rintro e wy2 ⟨rfl, hb, hk⟩
          rw [E4.out] at hb
          rw [E3.out]
          have HAy2 := Lib.hid hb
          have HBy2 := Lib.hid (hk.blk HBy1.out (by omega))
          have HKy2 := Lib.hid (Keeps.below HKy1.out hk HKy1.out.size (by intro k h; subst h; exact HS.out))
          clear hb hk HAy1 HBy1 HKy1
          go_wp2_with fail
          refine (may_any _ _ _ HAy2.out).mono ?_
          rintro e w' ⟨rfl, rfl⟩
          rw [show outMay (l + (u + c)) = l + (u + c) by unfold outMay; rw [if_neg (by omega)]]
          have hfin : (s ≤ 2 * (l + (u + c))) = True := by simp; omega
          go_wp2_with fail
          go_returns
          exact ⟨by simp [hfin], HKy2.out⟩

end Go.Proofs.Ytnecdcnokihgoaa
