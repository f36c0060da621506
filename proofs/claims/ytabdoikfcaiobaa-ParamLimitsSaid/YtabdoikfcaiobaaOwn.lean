/- Big, Var, Vars of the reference, on a row of one's own. -/
import Derived.Test.YtabdoikfcaiobaaNumI
namespace Go.Proofs.Ytabdoikfcaiobaa
open Go.RowKit Go.Deep

set_option maxHeartbeats 400000 in
theorem bigr_own (base : Nat) (a : Option Addr) (m cap : Nat) (xs : List UInt8) (v n : Int) (w : World) (hd : Bo base w a m cap xs) (hbase : base ≤ w.heap.size) (hl : m ≤ 1099511627776) (hv0 : 0 ≤ v) (hv1 : v ≤ 18446744073709551615) :
    Calls Try.prog 35 #[.slice a m cap, .int .u64 v, .int .i64 n] w fun e w' => ∃ a' cap', e = .returned (.slice a' (m + cnt n) cap') ∧ Bo base w' a' (m + cnt n) cap' (xs ++ bigD v (cnt n)) ∧
      Keeps (mine base a) w w' ∧ Near base w a a' := by
  have HD := Lib.hid hd
  have hpn := pos_eq n
  have hcn := cnt_val n
  have hc8 := cnt_le n
  clear hd
  go_enter Try.func35, Try.ntmps35
  go_wp2_with fail
  go_loopg [0, 7] (cnt n) (fun k vo vi wr => ∃ (j : Nat) (a' : Option Addr) (cap' : Nat) (zs : List UInt8), k = j ∧ vi = .int .i64 ((j : Int) - 1) ∧ vo = .slice a' zs.length cap' ∧ zs ++ bigD v j = xs ++ bigD v (cnt n) ∧ j ≤ cnt n ∧ zs.length + j = m + cnt n ∧ Bo base wr a' zs.length cap' zs ∧ Keeps (mine base a) w wr ∧ Near base w a a')
  case atStart => exact ⟨cnt n, a, cap, xs, rfl, rfl, by rw [← HD.out.1], rfl, by omega, by rw [← HD.out.1], by rw [← HD.out.1]; exact HD.out, Keeps.refl _ _, Near.refl _ _ _⟩
  case round =>
    obtain ⟨j, a2, c2, zs, rfl, rfl, rfl, hz, hj, hlen, ho, hk, hf⟩ := hrel
    have HZ := Lib.hid hz
    have HO := Lib.hid ho
    have HK := Lib.hid hk
    have HF := Lib.hid hf
    have HLEN := Lib.hid hlen
    clear hz ho hk hlen hf
    cases gk with
    | zero =>
      go_wp2_with fail
      go_returns
      have hz := HZ.out
      have hn := HLEN.out
      simp only [bigD, List.append_nil, Nat.add_zero] at hz hn
      refine ⟨a2, c2, by rw [← hn]; rfl, ?_, HK.out, HF.out⟩
      rw [← hz, ← hn]
      exact HO.out
    | succ j =>
      have hj0 : (0 : Int) ≤ ((j + 1 : Nat) : Int) - 1 := by omega
      go_wp2_with (at_builtin; refine halt ?_)
      have hbs : base ≤ wr.heap.size := by have := HK.out.size; omega
      refine Halted.go (wpList_push8 wr rfl _ _ (byt (v / 2 ^ (8 * j))) _ (B_byt _) rfl base a2 _ c2 zs rfl HO.out.bd rfl (by have := HLEN.out; omega) hbs ?_)
      intro a3 c3 w3 ho3 hk3 hf3
      have HO3 := Lib.hid ho3
      have HK3 := Lib.hid (Keeps.step HK.out HF.out hk3)
      have HF3 := Lib.hid (Near.step HF.out HK.out hf3)
      clear ho3 hk3 hf3 hbs
      go_wp2_with fail
      go_roundg j
      case measure => omega
      case rel =>
        refine ⟨j, a3, c3, zs ++ [byt (v / 2 ^ (8 * j))], rfl, by go_num, by simp, ?_, by omega, by have := HLEN.out; simp; omega, ?_, HK3.out, HF3.out⟩
        · rw [← HZ.out, bigD]; simp
        · have := HO3.out; rwa [show (zs ++ [byt (v / 2 ^ (8 * j))]).length = zs.length + 1 by simp]

set_option maxHeartbeats 400000 in
theorem varr_own (base : Nat) (a : Option Addr) (m cap : Nat) (xs : List UInt8) (v : Int) (w : World) (hd : Bo base w a m cap xs) (hbase : base ≤ w.heap.size) (hl : m ≤ 10000000000) (hv0 : 0 ≤ v) (hv1 : v ≤ 18446744073709551615) :
    Calls Try.prog 31 #[.slice a m cap, .int .u64 v] w fun e w' => ∃ a' n' cap', e = .returned (.tuple #[.slice a' n' cap', .int .i64 (varsErr [v])]) ∧ Bo base w' a' n' cap' (varsR xs [v]) ∧
      Keeps (mine base a) w w' ∧ Near base w a a' := by
  have HD := Lib.hid hd
  clear hd
  have hok : v ≤ 4611686018427387903 → varsErr [v] = 0 ∧ varsR xs [v] = xs ++ varE v := by
    intro h
    have : varsOK [v] = true := by simp [varsOK, h]
    unfold varsErr varsR
    rw [this, if_pos rfl, if_pos rfl]
    simp [varsE]
  rcases varLenV_cases v with ⟨r1, hn⟩ | ⟨r0, r1, hn⟩ | ⟨r0, r1, hn⟩ | ⟨r0, r1, hn⟩ | ⟨r0, hn⟩
  · obtain ⟨e1, e2⟩ := hok (by omega)
    have H1 := Lib.hid e1
    have H2 := Lib.hid e2
    clear e1 e2 hok
    go_enter Try.func31, Try.ntmps31
    go_wp2_with fail
    refine (varlenr_any v w hv0).mono ?_
    rintro e w' ⟨rfl, rfl⟩
    rw [hn]
    go_wp2_with (at_builtin; refine halt ?_)
    refine Halted.go (wpList_push8 w rfl _ _ (byt v) _ (by rw [← B_byt, Int.emod_eq_of_lt hv0 (by omega)]) rfl base a _ cap xs rfl HD.out.bd rfl (by omega) hbase ?_)
    intro a3 c3 w3 ho3 hk3 hf3
    go_wp2_with fail
    go_returns
    refine ⟨a3, m + 1, c3, by rw [H1.out]; rfl, ?_, hk3, hf3⟩
    rw [H2.out, varE_1 v r1]
    exact ho3
  · obtain ⟨e1, e2⟩ := hok (by omega)
    have H1 := Lib.hid e1
    have H2 := Lib.hid e2
    clear e1 e2 hok
    have hor : bits .or .u64 v 16384 = v + 16384 := by rw [or64_comm, or64 14 (by omega) (by omega) (by omega) hv0 (by omega) (by omega)]; omega
    have HOR := Lib.hid hor
    clear hor
    go_enter Try.func31, Try.ntmps31
    go_wp2_with fail
    refine (varlenr_any v w hv0).mono ?_
    rintro e w' ⟨rfl, rfl⟩
    rw [hn]
    go_wp2_with fail
    rw [HOR.out]
    refine (bigr_own base a m cap xs (v + 16384) 2 w HD.out hbase (by omega) (by omega) (by omega)).mono ?_
    rintro e w3 ⟨a3, c3, rfl, ho3, hk3, hf3⟩
    go_wp2_with fail
    go_returns
    refine ⟨a3, m + 2, c3, by rw [H1.out]; rfl, ?_, hk3, hf3⟩
    rw [H2.out, show varE v = bigD (v + 16384) 2 by unfold varE; rw [if_neg (by omega), if_pos r1]]
    exact ho3
  · obtain ⟨e1, e2⟩ := hok (by omega)
    have H1 := Lib.hid e1
    have H2 := Lib.hid e2
    clear e1 e2 hok
    have hor : bits .or .u64 v 2147483648 = v + 2147483648 := by rw [or64_comm, or64 30 (by omega) (by omega) (by omega) hv0 (by omega) (by omega)]; omega
    have HOR := Lib.hid hor
    clear hor
    go_enter Try.func31, Try.ntmps31
    go_wp2_with fail
    refine (varlenr_any v w hv0).mono ?_
    rintro e w' ⟨rfl, rfl⟩
    rw [hn]
    go_wp2_with fail
    rw [HOR.out]
    refine (bigr_own base a m cap xs (v + 2147483648) 4 w HD.out hbase (by omega) (by omega) (by omega)).mono ?_
    rintro e w3 ⟨a3, c3, rfl, ho3, hk3, hf3⟩
    go_wp2_with fail
    go_returns
    refine ⟨a3, m + 4, c3, by rw [H1.out]; rfl, ?_, hk3, hf3⟩
    rw [H2.out, show varE v = bigD (v + 2147483648) 4 by unfold varE; rw [if_neg (by omega), if_neg (by omega), if_pos r1]]
    exact ho3
  · obtain ⟨e1, e2⟩ := hok (by omega)
    have H1 := Lib.hid e1
    have H2 := Lib.hid e2
    clear e1 e2 hok
    have hor : bits .or .u64 v 13835058055282163712 = v + 13835058055282163712 := by rw [or64_comm, or64 62 (by omega) (by omega) (by omega) hv0 (by omega) (by omega)]; omega
    have HOR := Lib.hid hor
    clear hor
    go_enter Try.func31, Try.ntmps31
    go_wp2_with fail
    refine (varlenr_any v w hv0).mono ?_
    rintro e w' ⟨rfl, rfl⟩
    rw [hn]
    go_wp2_with fail
    rw [HOR.out]
    refine (bigr_own base a m cap xs (v + 13835058055282163712) 8 w HD.out hbase (by omega) (by omega) (by omega)).mono ?_
    rintro e w3 ⟨a3, c3, rfl, ho3, hk3, hf3⟩
    go_wp2_with fail
    go_returns
    refine ⟨a3, m + 8, c3, by rw [H1.out]; rfl, ?_, hk3, hf3⟩
    rw [H2.out, show varE v = bigD (v + 13835058055282163712) 8 by unfold varE; rw [if_neg (by omega), if_neg (by omega), if_neg (by omega)]]
    exact ho3
  · have hno : varsErr [v] = 21 ∧ varsR xs [v] = [] := by
      have : varsOK [v] = false := by simp [varsOK]; omega
      unfold varsErr varsR
      rw [this]
      exact ⟨rfl, rfl⟩
    have H1 := Lib.hid hno.1
    have H2 := Lib.hid hno.2
    clear hno hok
    go_enter Try.func31, Try.ntmps31
    go_wp2_with fail
    refine (varlenr_any v w hv0).mono ?_
    rintro e w' ⟨rfl, rfl⟩
    rw [hn]
    go_wp2_with fail
    go_returns
    refine ⟨none, 0, 0, by rw [H1.out]; rfl, ?_, Keeps.refl _ _, Near.none _ _ _⟩
    rw [H2.out]
    exact Bo.nil _ _

set_option maxHeartbeats 800000 in
theorem varsr_own (base : Nat) (a : Option Addr) (m cap : Nat) (xs : List UInt8) (a2 : Option Addr) (m2 cap2 : Nat) (vs : List Int) (w : World) (hd : Bo base w a m cap xs) (hv : Uv w a2 m2 cap2 vs) (hbase : base ≤ w.heap.size) (hfar : 0 < m2 → ∀ b, a2.map (·.block) = some b → ¬ mine base a b) (hl : m ≤ 1000000000) (hl2 : m2 ≤ 1000000000) :
    Calls Try.prog 28 #[.slice a m cap, .slice a2 m2 cap2] w fun e w' => ∃ a' n' cap', e = .returned (.tuple #[.slice a' n' cap', .int .i64 (varsErr vs)]) ∧ Bo base w' a' n' cap' (varsR xs vs) ∧
      Keeps (mine base a) w w' ∧ Near base w a a' := by
  have hcap := hv.2.1.le
  have hmax := hv.2.1.max
  unfold maxLen at hmax
  have HD := Lib.hid hd
  have HV := Lib.hid hv
  have HM := Lib.hid hv.1
  clear hd hv
  go_enter Try.func28, Try.ntmps28
  go_wp2_with fail
  go_loopg [0, 6] m2 (fun k vo vi wr => ∃ (i : Nat) (a' : Option Addr) (cap' : Nat) (zs : List UInt8), k + i = m2 ∧ vi = .int .i64 i ∧ vo = .slice a' zs.length cap' ∧ varsOK (vs.take i) = true ∧ zs = xs ++ varsE (vs.take i) ∧ zs.length ≤ m + 8 * i ∧ Bo base wr a' zs.length cap' zs ∧ Keeps (mine base a) w wr ∧ Near base w a a')
  case atStart => exact ⟨0, a, cap, xs, by omega, rfl, by rw [← HD.out.1], rfl, by simp [varsE], by have := HD.out.1; omega, by rw [← HD.out.1]; exact HD.out, Keeps.refl _ _, Near.refl _ _ _⟩
  case round =>
    obtain ⟨i, a2', c2', zs, hi, rfl, rfl, hok, hz, hlen, ho, hk, hf⟩ := hrel
    have HOK := Lib.hid hok
    have HZ := Lib.hid hz
    have HO := Lib.hid ho
    have HK := Lib.hid hk
    have HF := Lib.hid hf
    have HI := Lib.hid hi
    clear hok hz ho hk hi hf
    by_cases hik : i < m2
    · have hix : i < vs.length := by have := HM.out; omega
      have hvr : Uv wr a2 m2 cap2 vs := HV.out.keep HK.out (hfar (by omega))
      have hv0 := (hvr.2.2 vs[i] (List.getElem_mem hix)).1
      have hv1 := (hvr.2.2 vs[i] (List.getElem_mem hix)).2
      obtain ⟨b2, off2, rfl, hblt, hcell⟩ := hvr.get (by omega)
      have hc := hcell i hix
      have hsz : base ≤ wr.heap.size := by have := HK.out.size; omega
      clear hcell hvr
      go_wp2_with fail
      refine (varr_own base a2' zs.length c2' zs vs[i] wr HO.out hsz (by omega) hv0 hv1).mono ?_
      rintro e w3 ⟨a3, n3, c3, rfl, ho3, hk3, hf3⟩
      have HK3 := Lib.hid (Keeps.step HK.out HF.out hk3)
      have HF3 := Lib.hid (Near.step HF.out HK.out hf3)
      have HO3 := Lib.hid ho3
      clear hk3 hf3 ho3
      by_cases hov : vs[i] ≤ 4611686018427387903
      · have hone : varsOK [vs[i]] = true := by simp [varsOK, hov]
        have he : varsErr [vs[i]] = 0 := by unfold varsErr; rw [hone]; rfl
        have hx : Hid (varsR zs [vs[i]] = zs ++ varE vs[i]) := by show _ = _; unfold varsR; rw [hone, if_pos rfl]; simp [varsE]
        rw [he]
        have hn3 : n3 = (zs ++ varE vs[i]).length := by have := HO3.out.1; rwa [hx.out] at this
        have HN3 := Lib.hid hn3
        have hle : (varE vs[i]).length ≤ 8 := by unfold varE; (repeat' split) <;> simp [bigD_length]
        clear he hn3 hone
        go_wp2_with fail
        obtain ⟨k', rfl⟩ : ∃ k', gk = k' + 1 := ⟨gk - 1, by have := HI.out; omega⟩
        go_roundg k'
        case measure => omega
        case rel =>
          refine ⟨i + 1, a3, c3, zs ++ varE vs[i], by have := HI.out; omega, by go_num, by rw [HN3.out], varsOK_step hix HOK.out hov, by rw [varsE_step hix, ← HZ.out], by simp; omega, ?_, HK3.out, HF3.out⟩
          have := HO3.out
          rwa [hx.out, HN3.out] at this
      · have hone : varsOK [vs[i]] = false := by simp [varsOK]; omega
        have he : varsErr [vs[i]] = 21 := by unfold varsErr; rw [hone]; rfl
        have HE := Lib.hid (varsOK_not hix (by omega))
        rw [he]
        clear he hone
        go_wp2_with fail
        go_returns
        refine ⟨none, 0, 0, by unfold varsErr; rw [HE.out]; rfl, ?_, HK3.out, Near.none _ _ _⟩
        unfold varsR
        rw [HE.out]
        exact Bo.nil _ _
    · have hik2 : i = m2 := by have := HI.out; omega
      have HE : Hid (varsOK vs = true) := by
        have := HOK.out
        rw [hik2, HM.out, List.take_length] at this
        exact this
      have HE2 : Hid (zs = xs ++ varsE vs) := by
        have := HZ.out
        rw [hik2, HM.out, List.take_length] at this
        exact this
      clear hik2
      go_wp2_with fail
      go_returns
      refine ⟨a2', zs.length, c2', by unfold varsErr; rw [HE.out]; rfl, ?_, HK.out, HF.out⟩
      unfold varsR
      rw [HE.out, if_pos rfl, ← HE2.out]
      exact HO.out

end Go.Proofs.Ytabdoikfcaiobaa
