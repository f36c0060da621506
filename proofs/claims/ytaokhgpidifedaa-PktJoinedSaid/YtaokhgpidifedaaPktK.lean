/- Header of bifoldhelp, of two headers that are the same. -/
import Derived.Test.YtaokhgpidifedaaPktJ
namespace Go.Proofs.Ytaokhgpidifedaa
open Go.RowKit Go.Deep

set_option maxHeartbeats 1600000 in
theorem header_same (lg : Bool) (ty ve : Int) (da : Option Addr) (dn dc : Nat) (dx : List UInt8) (sa : Option Addr) (sn sc : Nat) (sx : List UInt8) (pn pl : Int) (da' : Option Addr) (dn' dc' : Nat) (sa' : Option Addr) (sn' sc' : Nat) (w : World)
    (h1 : By w da dn dc dx) (h2 : By w sa sn sc sx) (h3 : By w da' dn' dc' dx) (h4 : By w sa' sn' sc' sx) :
    Calls Try.prog 8 #[HdV lg ty ve da dn dc sa sn sc pn pl, HdV lg ty ve da' dn' dc' sa' sn' sc' pn pl] w fun e w' => e = .returned (.bool true) ∧ Below w.heap.size w w' := by
  unfold HdV
  have HK := Lib.hid (((Below.refl w.heap.size w).alloc (Nat.le_refl _) (.cells #[.bool lg, .int .i64 ty, .int .u32 ve, .slice da dn dc, .slice sa sn sc, .int .u64 pn, .int .i64 pl] 29 (0, 0))).alloc (by simp) (.cells #[.bool lg, .int .i64 ty, .int .u32 ve, .slice da' dn' dc', .slice sa' sn' sc', .int .u64 pn, .int .i64 pl] 29 (0, 0)))
  have H1 := Lib.hid ((h1.alloc (.cells #[.bool lg, .int .i64 ty, .int .u32 ve, .slice da dn dc, .slice sa sn sc, .int .u64 pn, .int .i64 pl] 29 (0, 0))).alloc (.cells #[.bool lg, .int .i64 ty, .int .u32 ve, .slice da' dn' dc', .slice sa' sn' sc', .int .u64 pn, .int .i64 pl] 29 (0, 0)))
  have H2 := Lib.hid ((h2.alloc (.cells #[.bool lg, .int .i64 ty, .int .u32 ve, .slice da dn dc, .slice sa sn sc, .int .u64 pn, .int .i64 pl] 29 (0, 0))).alloc (.cells #[.bool lg, .int .i64 ty, .int .u32 ve, .slice da' dn' dc', .slice sa' sn' sc', .int .u64 pn, .int .i64 pl] 29 (0, 0)))
  have H3 := Lib.hid ((h3.alloc (.cells #[.bool lg, .int .i64 ty, .int .u32 ve, .slice da dn dc, .slice sa sn sc, .int .u64 pn, .int .i64 pl] 29 (0, 0))).alloc (.cells #[.bool lg, .int .i64 ty, .int .u32 ve, .slice da' dn' dc', .slice sa' sn' sc', .int .u64 pn, .int .i64 pl] 29 (0, 0)))
  have H4 := Lib.hid ((h4.alloc (.cells #[.bool lg, .int .i64 ty, .int .u32 ve, .slice da dn dc, .slice sa sn sc, .int .u64 pn, .int .i64 pl] 29 (0, 0))).alloc (.cells #[.bool lg, .int .i64 ty, .int .u32 ve, .slice da' dn' dc', .slice sa' sn' sc', .int .u64 pn, .int .i64 pl] 29 (0, 0)))
  clear h1 h2 h3 h4
  go_enter Try.func8, Try.ntmps8
  go_wp2_with fail
  refine By.upon H1.out ?_
  go_wp2_with fail
  refine By.upon H3.out ?_
  go_wp2_with fail
  refine By.upon H2.out ?_
  go_wp2_with fail
  refine By.upon H4.out ?_
  go_wp2_with fail
  go_returns
  exact ⟨by simp, HK.out⟩

end Go.Proofs.Ytaokhgpidifedaa
