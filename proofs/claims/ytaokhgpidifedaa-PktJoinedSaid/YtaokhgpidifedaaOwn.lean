/- Big, Var, Vars of the reference, on a row of one's own. -/
import Derived.Test.YtaokhgpidifedaaNumI
namespace Go.Proofs.Ytaokhgpidifedaa
open Go.RowKit Go.Deep

set_option maxHeartbeats 400000 in
theorem bigr_own (base : Nat) (a : Option Addr) (m cap : Nat) (xs : List UInt8) (v n : Int) (w : World) (hd : Bo base w a m cap xs) (hbase : base ≤ w.heap.size) (hl : m ≤ 1099511627776) (hv0 : 0 ≤ v) (hv1 : v ≤ 18446744073709551615) :
    Calls Try.prog 10 #[.slice a m cap, .int .u64 v, .int .i64 n] w fun e w' => ∃ a' cap', e = .returned (.slice a' (m + cnt n) cap') ∧ Bo base w' a' (m + cnt n) cap' (xs ++ bigD v (cnt n)) ∧
      Keeps (mine base a) w w' ∧ Near base w a a' := by
  have HD := Lib.hid hd
  have hpn := pos_eq n
  have hcn := cnt_val n
  have hc8 := cnt_le n
  clear hd
  go_enter Try.func10, Try.ntmps10
  go_wp2_with fail
  go_loopg [0, 7] (cnt n) (fun k vo vi wr => ∃ (j : Nat) (a' : Option Addr) (cap' : Nat) (zs : List UInt8), k = j ∧ vi = .int .i64 ((j : Int) - 1) ∧ vo = .slice a' zs.length cap' ∧ zs ++ bigD v j = xs ++ bigD v (cnt n) ∧ j ≤ cnt n ∧ zs.length + j = m + cnt n ∧ Bo base wr a' zs.length cap' zs ∧ Keeps (mine base a) w wr ∧ Near base w a a')
  case atStart => exact ⟨cnt n, a, cap, xs, rfl, rfl, by rw [← HD.out.1], rfl, by omega, by rw [← HD.out.1], by rw [← HD.out.1]; exact HD.out, Keeps.refl _ _, Near.refl _ _ _⟩
  case round =>
    obtain ⟨j, a2, c2, zs, rfl, rfl, rfl, hz, hj, hlen, ho, hk, hf⟩ := hrel
    have HZ := Lib.hid hz
    have HO := Lib.hid ho
    have HK := Lib.hid hk
    have HF := Lib.hid hf
    have HLEN := Lib.hid hlen
    clear hz ho hk hlen hf
    cases gk with
    | zero =>
      go_wp2_with fail
      go_returns
      have hz := HZ.out
      have hn := HLEN.out
      simp only [bigD, List.append_nil, Nat.add_zero] at hz hn
      refine ⟨a2, c2, by rw [← hn]; rfl, ?_, HK.out, HF.out⟩
      rw [← hz, ← hn]
      exact HO.out
    | succ j =>
      have hj0 : (0 : Int) ≤ ((j + 1 : Nat) : Int) - 1 := by omega
      go_wp2_with (at_builtin; refine halt ?_)
      have hbs : base ≤ wr.heap.size := by have := HK.out.size; omega
      refine Halted.go (wpList_push8 wr rfl _ _ (byt (v / 2 ^ (8 * j))) _ (B_byt _) rfl base a2 _ c2 zs rfl HO.out.bd rfl (by have := HLEN.out; omega) hbs ?_)
      intro a3 c3 w3 ho3 hk3 hf3
      have HO3 := Lib.hid ho3
      have HK3 := Lib.hid (Keeps.step HK.out HF.out hk3)
      have HF3 := Lib.hid (Near.step HF.out HK.out hf3)
      clear ho3 hk3 hf3 hbs
      go_wp2_with fail
      go_roundg j
      case measure => omega
      case rel =>
        refine ⟨j, a3, c3, zs ++ [byt (v / 2 ^ (8 * j))], rfl, by go_num, by simp, ?_, by omega, by have := HLEN.out; simp; omega, ?_, HK3.out, HF3.out⟩
        · rw [← HZ.out, bigD]; simp
        · have := HO3.out; rwa [show (zs ++ [byt (v / 2 ^ (8 * j))]).length = zs.length + 1 by simp]

set_option maxHeartbeats 400000 in
theorem varr_own (base : Nat) (a : Option Addr) (m cap : Nat) (xs : List UInt8) (v : Int) (w : World) (hd : Bo base w a m cap xs) (hbase : base ≤ w.heap.size) (hl : m ≤ 10000000000) (hv0 : 0 ≤ v) (hv1 : v ≤ 18446744073709551615) :
    Calls Try.prog 11 #[.slice a m cap, .int .u64 v] w fun e w' => ∃ a' n' cap', e = .returned (.tuple #[.slice a' n' cap', .int .i64 (varsErr [v])]) ∧ Bo base w' a' n' cap' (varsR xs [v]) ∧
      Keeps (mine base a) w w' ∧ Near base w a a' := by
  have HD := Lib.hid hd
  clear hd
  have hok : v ≤ 4611686018427387903 → varsErr [v] = 0 ∧ varsR xs [v] = xs ++ varE v := by
    intro h
    have : varsOK [v] = true := by simp [varsOK, h]
    unfold varsErr varsR
    rw [this, if_pos rfl, if_pos rfl]
    simp [varsE]
  rcases varLenV_cases v with ⟨r1, hn⟩ | ⟨r0, r1, hn⟩ | ⟨r0, r1, hn⟩ | ⟨r0, r1, hn⟩ | ⟨r0, hn⟩
  · obtain ⟨e1, e2⟩ := hok (by omega)
    have H1 := Lib.hid e1
    have H2 := Lib.hid e2
    clear e1 e2 hok
    go_enter Try.func11, Try.ntmps11
    go_wp2_with fail
    refine (varlenr_any v w hv0).mono ?_
    rintro e w' ⟨rfl, rfl⟩
    rw [hn]
    go_wp2_with (at_builtin; refine halt ?_)
    refine Halted.go (wpList_push8 w rfl _ _ (byt v) _ (by rw [← B_byt, Int.emod_eq_of_lt hv0 (by omega)]) rfl base a _ cap xs rfl HD.out.bd rfl (by omega) hbase ?_)
    intro a3 c3 w3 ho3 hk3 hf3
    go_wp2_with fail
    go_returns
    refine ⟨a3, m + 1, c3, by rw [H1.out]; rfl, ?_, hk3, hf3⟩
    rw [H2.out, varE_1 v r1]
    exact ho3
  · obtain ⟨e1, e2⟩ := hok (by omega)
    have H1 := Lib.hid e1
    have H2 := Lib.hid e2
    clear e1 e2 hok
    have hor : bits .or .u64 v 16384 = v + 16384 := by rw [or64_comm, or64 14 (by omega) (by omega) (by omega) hv0 (by omega) (by omega)]; omega
    have HOR := Lib.hid hor
    clear hor
    go_enter Try.func11, Try.ntmps11
    go_wp2_with fail
    refine (varlenr_any v w hv0).mono ?_
    rintro e w' ⟨rfl, rfl⟩
    rw [hn]
    go_wp2_with fail
    rw [HOR.out]
    refine (bigr_own base a m cap xs (v + 16384) 2 w HD.out hbase (by omega) (by omega) (by omega)).mono ?_
    rintro e w3 ⟨a3, c3, rfl, ho3, hk3, hf3⟩
    go_wp2_with fail
    go_returns
    refine ⟨a3, m + 2, c3, by rw [H1.out]; rfl, ?_, hk3, hf3⟩
    rw [H2.out, show varE v = bigD (v + 16384) 2 by unfold varE; rw [if_neg (by omega), if_pos r1]]
    exact ho3
  · obtain ⟨e1, e2⟩ := hok (by omega)
    have H1 := Lib.hid e1
    have H2 := Lib.hid e2
    clear e1 e2 hok
    have hor : bits .or .u64 v 2147483648 = v + 2147483648 := by rw [or64_comm, or64 30 (by omega) (by omega) (by omega) hv0 (by omega) (by omega)]; omega
    have HOR := Lib.hid hor
    clear hor
    go_enter Try.func11, Try.ntmps11
    go_wp2_with fail
    refine (varlenr_any v w hv0).mono ?_
    rintro e w' ⟨rfl, rfl⟩
    rw [hn]
    go_wp2_with fail
    rw [HOR.out]
    refine (bigr_own base a m cap xs (v + 2147483648) 4 w HD.out hbase (by omega) (by omega) (by omega)).mono ?_
    rintro e w3 ⟨a3, c3, rfl, ho3, hk3, hf3⟩
    go_wp2_with fail
    go_returns
    refine ⟨a3, m + 4, c3, by rw [H1.out]; rfl, ?_, hk3, hf3⟩
    rw [H2.out, show varE v = bigD (v + 2147483648) 4 by unfold varE; rw [if_neg (by omega), if_neg (by omega), if_pos r1]]
    exact ho3
  · obtain ⟨e1, e2⟩ := hok (by omega)
    have H1 := Lib.hid e1
    have H2 := Lib.hid e2
    clear e1 e2 hok
    have hor : bits .or .u64 v 13835058055282163712 = v + 13835058055282163712 := by rw [or64_comm, or64 62 (by omega) (by omega) (by omega) hv0 (by omega) (by omega)]; omega
    have HOR := Lib.hid hor
    clear hor
    go_enter Try.func11, Try.ntmps11
    go_wp2_with fail
    refine (varlenr_any v w hv0).mono ?_
    rintro e w' ⟨rfl, rfl⟩
    rw [hn]
    go_wp2_with fail
    rw [HOR.out]
    refine (bigr_own base a m cap xs (v + 13835058055282163712) 8 w HD.out hbase (by omega) (by omega) (by omega)).mono ?_
    rintro e w3 ⟨a3, c3, rfl, ho3, hk3, hf3⟩
    go_wp2_with fail
    go_returns
    refine ⟨a3, m + 8, c3, by rw [H1.out]; rfl, ?_, hk3, hf3⟩
    rw [H2.out, show varE v = bigD (v + 13835058055282163712) 8 by unfold varE; rw [if_neg (by omega), if_neg (by omega), if_neg (by omega)]]
    exact ho3
  · have hno : varsErr [v] = 21 ∧ varsR xs [v] = [] := by
      have : varsOK [v] = false := by simp [varsOK]; omega
      unfold varsErr varsR
      rw [this]
      exact ⟨rfl, rfl⟩
    have H1 := Lib.hid hno.1
    have H2 := Lib.hid hno.2
    clear hno hok
    go_enter Try.func11, Try.ntmps11
    go_wp2_with fail
    refine (varlenr_any v w hv0).mono ?_
    rintro e w' ⟨rfl, rfl⟩
    rw [hn]
    go_wp2_with fail
    go_returns
    refine ⟨none, 0, 0, by rw [H1.out]; rfl, ?_, Keeps.refl _ _, Near.none _ _ _⟩
    rw [H2.out]
    exact Bo.nil _ _

end Go.Proofs.Ytaokhgpidifedaa
