/- The walk of PayCodes. -/
import Derived.Test.YtcckdahpagkbaaaPayG
import Derived.IntWalk
namespace Go.Proofs.Ytcckdahpagkbaaa
open Go.RowKit Go.Deep

theorem wf_i64_mk {x : Int} (h : -9223372036854775808 ≤ x ∧ x ≤ 9223372036854775807) : (Lit.int .i64 x).wf = true := by
  simp [Lit.wf, IntKind.min, IntKind.max, IntKind.signed, IntKind.bits]
  omega

set_option maxHeartbeats 1600000 in
theorem walkPayCodes (w : World) (rule : Int) (hr : (Lit.int .i64 rule).wf = true) (stack : Int) (hs : (Lit.int .i64 stack).wf = true) :
    Calls Try.prog 3 #[.int .i64 rule, .int .i64 stack] w fun e w' => e = .returned (.bool true) ∧ Below w.heap.size w w' := by
  obtain ⟨m, hm⟩ : ∃ m, rule.tmod 12 = m := ⟨_, rfl⟩
  have hmb : -12 < m ∧ m < 12 := by
    have h1 := Int.tmod_lt_of_pos rule (show (0 : Int) < 12 by omega)
    have h2 := Int.lt_tmod_of_pos rule (show (0 : Int) < 12 by omega)
    omega
  have HRM : Hid ((Lit.int .i64 m).wf = true) := wf_i64_mk (by omega)
  have HR := Lib.hid hr
  have hwm : wrap64 m = m := by unfold wrap64; omega
  have hwm2 : IntKind.i64.wrap m = m := by rw [IntKind.wrap_i64]; omega
  clear hmb hr hs
  go_enter Try.func3, Try.ntmps3
  go_wp2_with fail
  refine (known_any _).mono ?_
  rintro e w1 ⟨rfl, hk1⟩
  have HK1 := Lib.hid hk1
  clear hk1
  have HB := Lib.hid (Blk.new w1 #[.int .i64 rule, .int .i64 m] 3)
  have HK2 := Lib.hid (HK1.out.alloc HK1.out.size (.cells #[.int .i64 rule, .int .i64 m] 3 (0, 0)))
  have HS2 : Hid ((w1.alloc (.cells #[.int .i64 rule, .int .i64 m] 3 (0, 0))).heap.size = w1.heap.size + 1) := by show _ = _; simp
  go_wp2_with fail
  clear hwm hwm2 hm
  generalize w1.alloc (.cells #[.int .i64 rule, .int .i64 m] 3 (0, 0)) = w2 at *
  go_loopg [16] 2 (fun k vi wr => ∃ (j : Nat), k + j = 2 ∧ vi = .int .i64 j ∧ Below w2.heap.size w2 wr)
  case atStart => exact ⟨0, by omega, rfl, Below.refl _ _⟩
  case round =>
    obtain ⟨j, hj, rfl, hk⟩ := hrel
    have HJ := Lib.hid hj
    have HK := Lib.hid hk
    clear hj hk
    by_cases hj2 : j < 2
    · have hy : ∃ v : Int, (Lit.int .i64 v).wf = true ∧ wr.cell? ⟨w1.heap.size, j, none⟩ = some (.int .i64 v) := by
        have hb := (Below.keeps HK.out).blk HB.out (by rw [HS2.out]; omega)
        have hcase : j = 0 ∨ j = 1 := by omega
        rcases hcase with rfl | rfl
        · exact ⟨rule, HR.out, by rw [hb.cell]; rfl⟩
        · exact ⟨m, HRM.out, by rw [hb.cell]; rfl⟩
      obtain ⟨v, hv, hc⟩ := hy
      have HV := Lib.hid hv
      clear hv
      have hj0 : (0 : Int) ≤ (j : Int) := by omega
      have hjd : decide ((j : Int) < 2) = true := by simp; omega
      have HB3 := Lib.hid (Blk.new wr #[.int .i64 stack, .int .i64 2, .int .i64 3] 3)
      have HK3 := Lib.hid (HK.out.alloc HK.out.size (.cells #[.int .i64 stack, .int .i64 2, .int .i64 3] 3 (0, 0)))
      have HS3 : Hid ((wr.alloc (.cells #[.int .i64 stack, .int .i64 2, .int .i64 3] 3 (0, 0))).heap.size = wr.heap.size + 1) := by show _ = _; simp
      go_wp2_with fail
      clear hc
      generalize wr.alloc (.cells #[.int .i64 stack, .int .i64 2, .int .i64 3] 3 (0, 0)) = w3 at *
      generalize wr.heap.size = b3 at *
      obtain ⟨g, rfl⟩ : ∃ g, gk = g + 1 := ⟨gk - 1, by have := HJ.out; omega⟩
      go_loopg [23] 3 (fun k vi wq => ∃ (i : Nat), k + i = 3 ∧ vi = .int .i64 i ∧ Below w3.heap.size w3 wq)
      case atStart => exact ⟨0, by omega, rfl, Below.refl _ _⟩
      case round =>
        obtain ⟨i, hi, rfl, hk⟩ := hrel
        have HI := Lib.hid hi
        have HQ := Lib.hid hk
        clear hi hk
        by_cases hi3 : i < 3
        · have hy : ∃ s : Int, wr.cell? ⟨b3, i, none⟩ = some (.int .i64 s) := by
            have hb := (Below.keeps HQ.out).blk HB3.out (by rw [HS3.out]; omega)
            have hcase : i = 0 ∨ i = 1 ∨ i = 2 := by omega
            rcases hcase with rfl | rfl | rfl
            · exact ⟨stack, by rw [hb.cell]; rfl⟩
            · exact ⟨2, by rw [hb.cell]; rfl⟩
            · exact ⟨3, by rw [hb.cell]; rfl⟩
          obtain ⟨s, hc⟩ := hy
          have hi0 : (0 : Int) ≤ (i : Int) := by omega
          go_wp2_with fail
          refine (code_any v s wr HV.out).mono ?_
          rintro e w5 ⟨rfl, hk5⟩
          clear hc
          go_wp2_with fail
          refine (coder_any v s w5).mono ?_
          rintro e w6 ⟨rfl, hk6⟩
          have HQ6 := Lib.hid ((HQ.out.trans (hk5.mono HQ.out.size)).trans (hk6.mono (Nat.le_trans HQ.out.size hk5.size)))
          clear hk5 hk6
          generalize codeV v s = cv at *
          go_wp2_with fail
          obtain ⟨q, rfl⟩ : ∃ q, gk = q + 1 := ⟨gk - 1, by have := HI.out; omega⟩
          go_roundg q
          case measure => omega
          case rel => exact ⟨i + 1, by have := HI.out; omega, by go_num, HQ6.out⟩
        · obtain rfl : i = 3 := by have := HI.out; omega
          go_wp2_with fail
          go_roundg g
          case measure => omega
          case rel => exact ⟨j + 1, by have := HJ.out; omega, by go_num, HK3.out.trans (HQ.out.mono HK3.out.size)⟩
    · obtain rfl : j = 2 := by have := HJ.out; omega
      go_wp2_with fail
      go_returns
      exact ⟨rfl, HK2.out.trans (HK.out.mono HK2.out.size)⟩

end Go.Proofs.Ytcckdahpagkbaaa
