/- Two payloads with the same bytes and no settings read as the same. -/
import Derived.Test.YtcckdahpagkbaaaPayJ
import Derived.Deep.RegionWith
namespace Go.Proofs.Ytcckdahpagkbaaa
open Go.RowKit Go.Deep

set_option maxHeartbeats 1600000 in
theorem sets_none (w : World) :
    Calls Try.prog 22 #[.slice none 0 0, .slice none 0 0] w fun e w' => e = .returned (.bool true) ∧ Below w.heap.size w w' := by
  have HK := Lib.hid (Below.refl w.heap.size w)
  go_enter Try.func22, Try.ntmps22
  go_wp2_with fail
  go_loopg [5] 0 (fun k vi wr => k = 0 ∧ vi = .int .i64 0 ∧ w = wr)
  case atStart => exact ⟨rfl, rfl, rfl⟩
  case round =>
    obtain ⟨rfl, rfl, rfl⟩ := hrel
    go_wp2_with fail
    go_returns
    exact ⟨rfl, HK.out⟩

set_option maxRecDepth 8000 in
set_option maxHeartbeats 3200000 in
theorem same_any (a b : Option Addr) (n c d : Nat) (xs : List UInt8) (w : World) (ha : By w a n c xs) (hb : By w b n d xs) :
    Calls Try.prog 11 #[PyV a n c none 0 0 0 0 0, PyV b n d none 0 0 0 0 0] w fun e w' => e = .returned (.bool true) ∧ Below w.heap.size w w' := by
  have hk := ((Below.refl w.heap.size w).alloc (Nat.le_refl _) (.cells #[.slice a n c, .slice none 0 0, .int .u32 0, .int .u32 0, .int .u32 0] 33 (0, 0))).alloc (by simp) (.cells #[.slice b n d, .slice none 0 0, .int .u32 0, .int .u32 0, .int .u32 0] 33 (0, 0))
  have HK := Lib.hid hk
  have HA := Lib.hid ((ha.alloc (.cells #[.slice a n c, .slice none 0 0, .int .u32 0, .int .u32 0, .int .u32 0] 33 (0, 0))).alloc (.cells #[.slice b n d, .slice none 0 0, .int .u32 0, .int .u32 0, .int .u32 0] 33 (0, 0)))
  have HB := Lib.hid ((hb.alloc (.cells #[.slice a n c, .slice none 0 0, .int .u32 0, .int .u32 0, .int .u32 0] 33 (0, 0))).alloc (.cells #[.slice b n d, .slice none 0 0, .int .u32 0, .int .u32 0, .int .u32 0] 33 (0, 0)))
  clear ha hb hk
  have HBA := Lib.hid ((Blk.new w #[.slice a n c, .slice none 0 0, .int .u32 0, .int .u32 0, .int .u32 0] 33).alloc (.cells #[.slice b n d, .slice none 0 0, .int .u32 0, .int .u32 0, .int .u32 0] 33 (0, 0)))
  have HBB := Lib.hid (Blk.new (w.alloc (.cells #[.slice a n c, .slice none 0 0, .int .u32 0, .int .u32 0, .int .u32 0] 33 (0, 0))) #[.slice b n d, .slice none 0 0, .int .u32 0, .int .u32 0, .int .u32 0] 33)
  simp only [World.size_alloc] at HBB
  unfold PyV
  go_enter Try.func11, Try.ntmps11
  go_wp2_with fail
  refine HA.out.upon ?_
  go_wp2_with fail
  refine HB.out.upon ?_
  go_wp2_with fail
  refine (sets_none _).mono ?_
  rintro e w1 ⟨rfl, hk1⟩
  have HA1 := Lib.hid ((Below.keeps hk1).blk HBA.out (by simp; omega))
  have HB1 := Lib.hid ((Below.keeps hk1).blk HBB.out (by simp))
  have HK1 := Lib.hid (HK.out.trans (hk1.mono HK.out.size))
  clear hk1
  obtain ⟨⟨p0, p1, p2, p3, p4⟩, _⟩ := pay_cells HA1.out
  obtain ⟨⟨q0, q1, q2, q3, q4⟩, _⟩ := pay_cells HB1.out
  go_wp2_with fail
  go_returns
  exact ⟨rfl, HK1.out⟩

end Go.Proofs.Ytcckdahpagkbaaa
