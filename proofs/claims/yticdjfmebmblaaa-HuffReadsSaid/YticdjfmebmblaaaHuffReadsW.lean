/- The walk of HuffReads. -/
import Derived.Test.YticdjfmebmblaaaHufP
namespace Go.Proofs.Yticdjfmebmblaaa
open Go.RowKit Go.Deep

set_option maxHeartbeats 800000 in
theorem walkHuffReads (w : World) (v0 : Value) (h0 : Arg Try.prog w 22 v0) :
    Calls Try.prog 4 #[v0] w fun e w' => e = .returned (.bool true) ∧ Below w.heap.size w w' := by
  obtain ⟨a, m, cap, xs, rfl, hby, hkeep⟩ := h0.bytes
  have HKEEP := Lib.hid hkeep
  have HLT := Lib.hid (h0.lt Try.underlying22)
  clear hby hkeep h0
  go_enter Try.func4, Try.ntmps4
  go_wp2_with fail
  refine (known_any w).mono ?_
  rintro e w1 ⟨rfl, hk1⟩
  have HB := Lib.hid (HKEEP.out w1 hk1)
  have HK := Lib.hid hk1
  have hs1 := hk1.size
  clear hk1
  by_cases h120 : 120 < m
  · go_wp2_with fail
    go_returns
    exact ⟨rfl, HK.out⟩
  · go_wp2_with fail
    refine (decode_any a m cap xs w1 HB.out (by omega) (fun b hb => by have := HLT.out b hb; omega)).mono ?_
    rintro e w2 ⟨rfl, hk2⟩
    have HK2 := Lib.hid (HK.out.trans (hk2.mono HK.out.size))
    have HB2 := Lib.hid (HKEEP.out w2 HK2.out)
    have hs2 := hk2.size
    clear hk2
    go_wp2_with fail
    refine (unhuff_any a m cap xs w2 HB2.out (by omega) (fun b hb => by have := HLT.out b hb; omega)).mono ?_
    rintro e w3 ⟨rfl, hk3⟩
    have HK3 := Lib.hid (HK2.out.trans (hk3.mono HK2.out.size))
    clear hk3
    go_wp2_with fail
    go_returns
    exact ⟨by simp, HK3.out⟩

end Go.Proofs.Yticdjfmebmblaaa
