/- The walks of the laws of layer 23 over lists. -/
import Derived.Test.YtnegiagooahncaaCongE
namespace Go.Proofs.Ytnegiagooahncaa
open Go.RowKit

theorem CG.lost_s (c : CG) (a b : Int) : (c.lost a b).s = c.s := by unfold CG.lost; split <;> rfl

set_option maxHeartbeats 1000000 in
theorem walkCongFloor (w : World) (a0 : Int) (w0 : (Lit.int .u16 a0).wf = true) (v1 : Value) (hv : Arg Try.prog w 43 v1) :
    Calls Try.prog 7 #[.int .u16 a0, v1] w fun e w' => e = .returned (.bool true) ∧ Below w.heap.size w w' := by
  obtain ⟨h0, h0'⟩ := wf_u16_iff w0
  clear w0
  obtain ⟨ad, len, cap, V, rfl, hl, hcap, hseen, hrd⟩ := (hv.rd_slice Try.underlying43).row Try.underlying43 (by kernel_rfl)
  clear hv
  have HSEEN := Lib.hid hseen
  have HRD := Lib.hid hrd
  clear hseen hrd
  unfold maxLen at hcap
  by_cases hlong : 60 < len
  · go_enter Try.func7, Try.ntmps7
    go_wp2_with fail
    refine (known_any w).mono ?_
    rintro e w1 ⟨rfl, hk⟩
    have HK := Lib.hid hk
    clear hk
    go_wp2_with fail
    go_returns
    exact ⟨rfl, HK.out⟩
  · go_enter Try.func7, Try.ntmps7
    go_wp2_with fail
    refine (known_any w).mono ?_
    rintro e w1 ⟨rfl, hk⟩
    have HK := Lib.hid hk
    clear hk
    go_wp2_with fail
    refine (new_any (a0 % 1200 + 1) _ (by omega) (by omega)).mono ?_
    rintro e w2 ⟨rfl, hw2⟩
    have HB : Hid (Blk w2 w1.heap.size (cgNew (a0 % 1200 + 1)).cells 47) := by
      rw [hw2]
      exact Blk.new w1 (cgNew (a0 % 1200 + 1)).cells 47
    have HK2 : Hid (Below w.heap.size w w2) := by rw [hw2]; exact HK.out.alloc HK.out.size _
    have HS := Lib.hid HK.out.size
    have hs1 : 1 ≤ a0 % 1200 + 1 := by omega
    have hs2 : a0 % 1200 + 1 ≤ 1200 := by omega
    have HNS : Hid ((cgNew (a0 % 1200 + 1)).s = a0 % 1200 + 1) := by
      show (cgNew (a0 % 1200 + 1)).s = a0 % 1200 + 1
      simp [cgNew, show ¬ (a0 % 1200 + 1 < 1 ∨ 1200 < a0 % 1200 + 1) by omega]
    clear hw2
    go_wp2_with fail
    generalize a0 % 1200 + 1 = s at *
    clear h0 h0'
    go_loopg [7, 8] len (fun k va vi wr => ∃ (i : Nat) (A : Int) (c : CG), k + i = len ∧ vi = .int .i64 i ∧ va = .int .u64 A ∧ 0 ≤ A ∧ A ≤ 256 * i ∧ c.ok ∧ c.s = s ∧ (c.R = true → c.S ≤ A) ∧ Blk wr w1.heap.size c.cells 47 ∧ Below w.heap.size w wr)
    case atStart => exact ⟨0, 0, _, by omega, rfl, rfl, by omega, by omega, cgNew_ok s, HNS.out, (by intro h; cases h), HB.out, HK2.out⟩
    case round =>
      obtain ⟨i, A, c, hi, rfl, rfl, hA0, hA1, hok, hcs, hR, hb, hk⟩ := hrel
      have HB4 := Lib.hid hb
      have HK4 := Lib.hid hk
      have HI := Lib.hid hi
      have HOK := Lib.hid hok
      have HCS := Lib.hid hcs
      have HR := Lib.hid hR
      clear hb hk hi hok hcs hR HB HK2 HNS
      by_cases hil : i < len
      · obtain ⟨z, hz, hzw⟩ := (HRD.out i (by omega)).int Try.underlying5
        obtain ⟨hz0, hz1⟩ := wf_u8_iff hzw
        obtain ⟨b, off, rfl, hblt, hcell⟩ := HSEEN.out.resolve_left (by omega)
        have hc1 := hcell i 0 (by omega) (by omega)
        rw [hz, ← HK4.out.cell hblt] at hc1
        have hc : wr.cell? ⟨b, off + i, none⟩ = some (.int .u8 z) := by simpa using hc1
        clear hc1 hcell hzw hz
        obtain ⟨k', rfl⟩ : ∃ k', gk = k' + 1 := ⟨gk - 1, by have := HI.out; omega⟩
        by_cases hz5 : z % 5 = 0
        · have hz5' : (z % 5 == 0) = true := by simp [hz5]
          clear hz5
          go_wp2_with fail
          refine (collapse_any _ c _ HB4.out HOK.out).mono ?_
          rintro e w5 ⟨rfl, hb5, hk5⟩
          have HB5 := Lib.hid hb5
          have HK5 := Lib.hid (Keeps.below HK4.out hk5 HK4.out.size (by intro k h; subst h; exact HS.out))
          clear hb5 hk5
          have HOKX : Hid c.collapse.ok := CG.collapse_ok HOK.out
          have HFX : Hid (c.collapse.s = s ∧ (c.collapse.R = true → c.collapse.S ≤ A + (z + 1))) := ⟨HCS.out, by intro h; cases h⟩
          have HOK5 : Hid (c.collapse).ok := HOKX
          have HF5 : Hid ((c.collapse).s = s ∧ ((c.collapse).R = true → (c.collapse).S ≤ A + (z + 1))) := HFX
          clear HOKX HFX
          generalize c.collapse = c' at *
          have hW : 2 * s ≤ c'.W := by have h1 := HOK5.out; have h2 := HF5.out.1; unfold CG.ok at h1; omega
          go_wp2_with fail
          refine (window_any _ c' _ HB5.out).mono ?_
          rintro e w' ⟨rfl, rfl⟩
          go_wp2_with fail
          refine (may_any _ c' 0 1073741824 _ HB5.out HOK5.out).mono ?_
          rintro e w' ⟨rfl, rfl⟩
          rw [show c'.may 0 1073741824 = true by simp [CG.may]]
          go_wp2_with fail
          refine (may_any _ c' s s _ HB5.out HOK5.out).mono ?_
          rintro e w' ⟨rfl, rfl⟩
          rw [show c'.may s s = true by simp [CG.may]; omega]
          go_wp2_with fail
          go_roundg k'
          case measure => omega
          case rel => exact ⟨i + 1, A + (z + 1), c', by have := HI.out; omega, by go_num, rfl, by omega, by omega, HOK5.out, HF5.out.1, HF5.out.2, HB5.out, HK5.out⟩
        · have hz5' : (z % 5 == 0) = false := by simp [hz5]
          clear hz5
          go_wp2_with fail
          refine (lost_any _ c (A + (z + 1)) (A + (z + 1)) _ HB4.out HOK.out).mono ?_
          rintro e w5 ⟨rfl, hb5, hk5⟩
          have HB5 := Lib.hid hb5
          have HK5 := Lib.hid (Keeps.below HK4.out hk5 HK4.out.size (by intro k h; subst h; exact HS.out))
          clear hb5 hk5
          have HOKX : Hid (c.lost (A + (z + 1)) (A + (z + 1))).ok := CG.lost_ok HOK.out _ _ (by omega) (by have := HI.out; omega)
          have HFX : Hid ((c.lost (A + (z + 1)) (A + (z + 1))).s = s ∧ ((c.lost (A + (z + 1)) (A + (z + 1))).R = true → (c.lost (A + (z + 1)) (A + (z + 1))).S ≤ A + (z + 1))) := by
            refine ⟨(CG.lost_s _ _ _).trans HCS.out, ?_⟩
            unfold CG.lost
            split
            · intro h; have := HR.out h; omega
            · intro _; exact Int.le_refl _
          have HOK5 : Hid (c.lost (A + (z + 1)) (A + (z + 1))).ok := HOKX
          have HF5 : Hid ((c.lost (A + (z + 1)) (A + (z + 1))).s = s ∧ ((c.lost (A + (z + 1)) (A + (z + 1))).R = true → (c.lost (A + (z + 1)) (A + (z + 1))).S ≤ A + (z + 1))) := HFX
          clear HOKX HFX
          generalize c.lost (A + (z + 1)) (A + (z + 1)) = c' at *
          have hW : 2 * s ≤ c'.W := by have h1 := HOK5.out; have h2 := HF5.out.1; unfold CG.ok at h1; omega
          go_wp2_with fail
          refine (window_any _ c' _ HB5.out).mono ?_
          rintro e w' ⟨rfl, rfl⟩
          go_wp2_with fail
          refine (may_any _ c' 0 1073741824 _ HB5.out HOK5.out).mono ?_
          rintro e w' ⟨rfl, rfl⟩
          rw [show c'.may 0 1073741824 = true by simp [CG.may]]
          go_wp2_with fail
          refine (may_any _ c' s s _ HB5.out HOK5.out).mono ?_
          rintro e w' ⟨rfl, rfl⟩
          rw [show c'.may s s = true by simp [CG.may]; omega]
          go_wp2_with fail
          go_roundg k'
          case measure => omega
          case rel => exact ⟨i + 1, A + (z + 1), c', by have := HI.out; omega, by go_num, rfl, by omega, by omega, HOK5.out, HF5.out.1, HF5.out.2, HB5.out, HK5.out⟩
      · go_wp2_with fail
        go_returns
        exact ⟨rfl, HK4.out⟩

/-- What an element of a script holds. -/
theorem act_of {w : World} {v : Value} (hv : Arg Try.prog w 27 v) :
    ∃ (a : Option Addr) (len cap : Nat) (V : Nat → Nat → Value), v = .slice a len cap ∧ len ≤ cap ∧ cap ≤ maxLen ∧ Seen w a cap 4 V ∧
      ∀ i, i < cap → ∃ q m x y, V i 0 = .int .u8 q ∧ V i 1 = .int .i64 m ∧ V i 2 = .int .u16 x ∧ V i 3 = .int .u16 y ∧ (0 ≤ q ∧ q ≤ 255) ∧ (-9223372036854775808 ≤ m ∧ m ≤ 9223372036854775807) ∧ (0 ≤ x ∧ x ≤ 65535) ∧ (0 ≤ y ∧ y ≤ 65535) := by
  obtain ⟨a, len, cap, V, h1, h2, h3, h4, h5⟩ := (hv.rd_slice Try.underlying27).slice Try.underlying27 Try.underlying33 (by kernel_rfl) (by kernel_rfl) (by decide)
  refine ⟨a, len, cap, V, h1, h2, h3, h4, fun i hi => ?_⟩
  obtain ⟨q, hq, hqw⟩ := (h5 i 0 _ hi rfl).int Try.underlying5
  obtain ⟨m, hm, hmw⟩ := (h5 i 1 _ hi rfl).int Try.underlying3
  obtain ⟨x, hx, hxw⟩ := (h5 i 2 _ hi rfl).int Try.underlying26
  obtain ⟨y, hy, hyw⟩ := (h5 i 3 _ hi rfl).int Try.underlying26
  exact ⟨q, m, x, y, hq, hm, hx, hy, wf_u8_iff hqw, wf_i64_iff hmw, wf_u16_iff hxw, wf_u16_iff hyw⟩

set_option maxHeartbeats 1000000 in
theorem walkCongOnce (w : World) (a0 : Int) (w0 : (Lit.int .u16 a0).wf = true) (a1 : Int) (w1 : (Lit.int .u16 a1).wf = true) (v2 : Value) (hv : Arg Try.prog w 27 v2) :
    Calls Try.prog 4 #[.int .u16 a0, .int .u16 a1, v2] w fun e w' => e = .returned (.bool true) ∧ Below w.heap.size w w' := by
  obtain ⟨h0, h0'⟩ := wf_u16_iff w0
  obtain ⟨h1, h1'⟩ := wf_u16_iff w1
  clear w0 w1
  obtain ⟨ad, len, cap, V, rfl, hl, hcap, hseen, hrd⟩ := act_of hv
  clear hv
  have HSEEN := Lib.hid hseen
  have HRD := Lib.hid hrd
  clear hseen hrd
  unfold maxLen at hcap
  by_cases hlong : 40 < len
  · go_enter Try.func4, Try.ntmps4
    go_wp2_with fail
    refine (known_any w).mono ?_
    rintro e w1 ⟨rfl, hk⟩
    have HK := Lib.hid hk
    clear hk
    go_wp2_with fail
    go_returns
    exact ⟨rfl, HK.out⟩
  · go_enter Try.func4, Try.ntmps4
    go_wp2_with fail
    refine (known_any w).mono ?_
    rintro e w1 ⟨rfl, hk⟩
    have HK := Lib.hid hk
    clear hk
    go_wp2_with fail
    refine (new_any 1000 _ (by omega) (by omega)).mono ?_
    rintro e w2 ⟨rfl, hw2⟩
    have HB : Hid (Blk w2 w1.heap.size (cgNew 1000).cells 47) := by
      rw [hw2]
      exact Blk.new w1 (cgNew 1000).cells 47
    have HK2 : Hid (Below w.heap.size w w2) := by rw [hw2]; exact HK.out.alloc HK.out.size _
    have HS := Lib.hid HK.out.size
    clear hw2
    go_wp2_with fail
    refine (lost_any _ _ a0 a1 _ HB.out (by decide)).mono ?_
    rintro e w3 ⟨rfl, hb3, hk3⟩
    have eL : (cgNew 1000).lost a0 a1 = ⟨1000, 5000, 5000, 0, true, a1⟩ := rfl
    rw [eL] at hb3
    have HB3 := Lib.hid hb3
    have HK3 := Lib.hid (Keeps.below HK2.out hk3 HK2.out.size (by intro k h; subst h; exact HS.out))
    clear hb3 hk3 eL HB HK2
    go_wp2_with fail
    refine (window_any _ _ _ HB3.out).mono ?_
    rintro e w' ⟨rfl, rfl⟩
    have HOK : Hid ((⟨1000, 5000, 5000, 0, true, a1⟩ : CG).ok) := by
      show CG.ok _
      simp only [CG.ok]
      omega
    have HAK : Hid (∀ n t, t ≤ a1 → CG.acked ⟨1000, 5000, 5000, 0, true, a1⟩ n t = ⟨1000, 5000, 5000, 0, true, a1⟩) := by
      show ∀ n t, t ≤ a1 → _
      intro n t ht
      unfold CG.acked
      rw [if_pos (.inr (by simp [CG.early, ht]))]
    have HLO : Hid (∀ n t, t ≤ a1 → CG.lost ⟨1000, 5000, 5000, 0, true, a1⟩ t n = ⟨1000, 5000, 5000, 0, true, a1⟩) := by
      show ∀ n t, t ≤ a1 → _
      intro n t ht
      unfold CG.lost
      rw [if_pos (by simp [CG.early, ht])]
    go_wp2_with fail
    go_loopg [9] len (fun k vi wr => ∃ (i : Nat), k + i = len ∧ vi = .int .i64 i ∧ Blk wr w1.heap.size (CG.cells ⟨1000, 5000, 5000, 0, true, a1⟩) 47 ∧ Below w.heap.size w wr)
    case atStart => exact ⟨0, by omega, rfl, HB3.out, HK3.out⟩
    case round =>
      obtain ⟨i, hi, rfl, hb, hk⟩ := hrel
      have HB4 := Lib.hid hb
      have HK4 := Lib.hid hk
      have HI := Lib.hid hi
      clear hb hk hi HB3 HK3
      by_cases hil : i < len
      · obtain ⟨q, m, x, y, e0, e1, e2, e3, hq, hm, hx, hy⟩ := HRD.out i (by omega)
        obtain ⟨b, off, rfl, hblt, hcell⟩ := HSEEN.out.resolve_left (by omega)
        have c0 := hcell i 0 (by omega) (by omega)
        have c1 := hcell i 1 (by omega) (by omega)
        have c2 := hcell i 2 (by omega) (by omega)
        have c3 := hcell i 3 (by omega) (by omega)
        rw [e0, ← HK4.out.cell hblt] at c0
        rw [e1, ← HK4.out.cell hblt] at c1
        rw [e2, ← HK4.out.cell hblt] at c2
        rw [e3, ← HK4.out.cell hblt] at c3
        rw [Nat.add_zero] at c0
        clear hcell e0 e1 e2 e3
        obtain ⟨k', rfl⟩ : ∃ k', gk = k' + 1 := ⟨gk - 1, by have := HI.out; omega⟩
        have ht : x % (a1 + 1) ≤ a1 := by have := Int.emod_lt_of_pos x (show 0 < a1 + 1 by omega); omega
        by_cases hq2 : q % 2 = 0
        · have hq2' : (q % 2 == 0) = true := by simp [hq2]
          clear hq2
          go_wp2_with fail
          refine (acked_any _ _ m (x % (a1 + 1)) _ HB4.out HOK.out hm.1 hm.2).mono ?_
          rintro e w5 ⟨rfl, hb5, hk5⟩
          rw [HAK.out _ _ ht] at hb5
          have HB5 := Lib.hid hb5
          have HK5 := Lib.hid (Keeps.below HK4.out hk5 HK4.out.size (by intro k h; subst h; exact HS.out))
          clear hb5 hk5
          go_wp2_with fail
          refine (window_any _ _ _ HB5.out).mono ?_
          rintro e w' ⟨rfl, rfl⟩
          go_wp2_with fail
          go_roundg k'
          case measure => omega
          case rel => exact ⟨i + 1, by have := HI.out; omega, by go_num, HB5.out, HK5.out⟩
        · have hq2' : (q % 2 == 0) = false := by simp [hq2]
          clear hq2
          go_wp2_with fail
          refine (lost_any _ _ (x % (a1 + 1)) y _ HB4.out HOK.out).mono ?_
          rintro e w5 ⟨rfl, hb5, hk5⟩
          rw [HLO.out _ _ ht] at hb5
          have HB5 := Lib.hid hb5
          have HK5 := Lib.hid (Keeps.below HK4.out hk5 HK4.out.size (by intro k h; subst h; exact HS.out))
          clear hb5 hk5
          go_wp2_with fail
          refine (window_any _ _ _ HB5.out).mono ?_
          rintro e w' ⟨rfl, rfl⟩
          go_wp2_with fail
          go_roundg k'
          case measure => omega
          case rel => exact ⟨i + 1, by have := HI.out; omega, by go_num, HB5.out, HK5.out⟩
      · go_wp2_with fail
        go_returns
        exact ⟨rfl, HK4.out⟩

end Go.Proofs.Ytnegiagooahncaa
