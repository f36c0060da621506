/- The walk of NumReads. -/
import Derived.Test.YtffffgpahdkngaaNumG
namespace Go.Proofs.Ytffffgpahdkngaa
open Go.RowKit Go.Deep

set_option maxHeartbeats 800000 in
theorem walkNumReads (w : World) (v0 : Value) (h0 : Arg Try.prog w 22 v0) (a1 : Int) (w1 : (Lit.int .i64 a1).wf = true) (a2 : Int) (w2 : (Lit.int .i64 a2).wf = true) :
    Calls Try.prog 8 #[v0, .int .i64 a1, .int .i64 a2] w fun e w' => e = .returned (.bool true) ∧ Below w.heap.size w w' := by
  obtain ⟨a, m, cap, xs, rfl, hby, hkeep⟩ := h0.bytes
  have HKEEP := Lib.hid hkeep
  clear hby hkeep h0 w1 w2
  go_enter Try.func8, Try.ntmps8
  go_wp2_with fail
  refine (known_any w).mono ?_
  rintro e w1 ⟨rfl, hk1⟩
  have HB := Lib.hid (HKEEP.out w1 hk1)
  have HK := Lib.hid hk1
  clear hk1
  by_cases h100 : 100 < m
  · go_wp2_with fail
    go_returns
    exact ⟨rfl, HK.out⟩
  · go_wp2_with fail
    refine (readvar_any a m cap xs w1 HB.out).mono ?_
    rintro e w' ⟨rfl, rfl⟩
    go_wp2_with fail
    refine (readvarr_any a m cap xs w1 HB.out).mono ?_
    rintro e w' ⟨rfl, rfl⟩
    go_wp2_with fail
    refine (readprefix_any a m cap xs a1 w1 HB.out).mono ?_
    rintro e w' ⟨rfl, rfl⟩
    go_wp2_with fail
    refine (readprefixr_any a m cap xs a1 w1 HB.out).mono ?_
    rintro e w' ⟨rfl, rfl⟩
    go_wp2_with fail
    refine (readbig_any a m cap xs a2 w1 HB.out).mono ?_
    rintro e w' ⟨rfl, rfl⟩
    go_wp2_with fail
    refine (readbigr_any a m cap xs a2 w1 HB.out).mono ?_
    rintro e w' ⟨rfl, rfl⟩
    go_wp2_with fail
    go_returns
    exact ⟨by simp, HK.out⟩

end Go.Proofs.Ytffffgpahdkngaa
