/- known of this layer. -/
import Derived.Test.YtaelhcoeejpglaaSeqC
import Derived.Test.YtaelhcoeejpglaaArgB
namespace Go.Proofs.Ytaelhcoeejpglaa
open Go.RowKit Go.Deep

theorem index_one (b : Nat) (w : World) (hc : w.cell? ⟨b, 0, none⟩ = some (.int .u64 2)) :
    Calls Try.prog 12 #[.slice (some ⟨b, 0, none⟩) 1 1, .int .u64 2] w fun e w' => e = .returned (.int .i64 0) ∧ w = w' := by
  go_enter Try.func12, Try.ntmps12
  go_wp2_with fail
  go_loopg [8] 0 (fun k vi wr => k = 0 ∧ vi = .int .i64 0 ∧ w = wr)
  case atStart => exact ⟨rfl, rfl, rfl⟩
  case round =>
    obtain ⟨rfl, rfl, rfl⟩ := hrel
    go_wp2_with fail
    go_returns
    exact ⟨rfl, rfl⟩

theorem contains_one (b : Nat) (w : World) (hc : w.cell? ⟨b, 0, none⟩ = some (.int .u64 2)) :
    Calls Try.prog 11 #[.slice (some ⟨b, 0, none⟩) 1 1, .int .u64 2] w fun e w' => e = .returned (.bool true) ∧ w = w' := by
  go_enter Try.func11, Try.ntmps11
  go_wp2_with fail
  refine (index_one b w hc).mono ?_
  rintro e w' ⟨rfl, rfl⟩
  go_wp2_with fail
  go_returns
  exact ⟨rfl, rfl⟩

theorem uni_one (b : Nat) (w : World) (hc : w.cell? ⟨b, 0, none⟩ = some (.int .u64 2)) :
    Calls Try.prog 9 #[.int .u64 2, .slice (some ⟨b, 0, none⟩) 1 1] w fun e w' => e = .returned (.int .i64 2) ∧ w = w' := by
  go_enter Try.func9, Try.ntmps9
  go_wp2_with fail
  refine (contains_one b w hc).mono ?_
  rintro e w' ⟨rfl, rfl⟩
  go_wp2_with fail
  go_returns
  exact ⟨rfl, rfl⟩

set_option maxHeartbeats 1600000 in
theorem known_any (w : World) : Calls Try.prog 5 #[] w fun e w' => e = .returned (.bool true) ∧ Below w.heap.size w w' := by
  go_enter Try.func5, Try.ntmps5
  go_wp2_with fail
  refine (request_r 0 0 true _ (by decide) (by decide) (0, 9) (Lib.hid (by decide))).mono ?_
  rintro e w1 ⟨rfl, hk1⟩
  have HK1 := Lib.hid hk1
  clear hk1
  go_wp2_with fail
  refine (request_r 0 1 true _ (by decide) (by decide) (1, 0) (Lib.hid (by decide))).mono ?_
  rintro e w2 ⟨rfl, hk2⟩
  have HK2 := Lib.hid (HK1.out.trans (hk2.mono HK1.out.size))
  clear hk2
  go_wp2_with fail
  refine (control_r 0 4 false _ (1, 0) (Lib.hid (by decide))).mono ?_
  rintro e w3 ⟨rfl, rfl⟩
  go_wp2_with fail
  refine (end_any 0 _).mono ?_
  rintro e w4 ⟨rfl, rfl⟩
  go_wp2_with fail
  have hb := Blk.new w2 #[.int .u64 2] 24
  refine (uni_one w2.heap.size _ (hb.cell 0)).mono ?_
  rintro e w5 ⟨rfl, rfl⟩
  clear hb
  go_wp2_with fail
  go_returns
  exact ⟨rfl, HK2.out.alloc HK2.out.size _⟩

end Go.Proofs.Ytaelhcoeejpglaa
