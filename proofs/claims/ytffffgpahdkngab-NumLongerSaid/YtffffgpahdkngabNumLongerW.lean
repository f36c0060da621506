/- The walk of NumLonger. -/
import Derived.Test.YtffffgpahdkngabNumI
namespace Go.Proofs.Ytffffgpahdkngab
open Go.RowKit Go.Deep

/-- A number told in n bytes, be it shorter. -/
theorem rv_long (x : Int) (h0 : 0 ≤ x) (n : Nat) (t : Int) (hc : n = 1 ∧ t = 0 ∧ x < 64 ∨ n = 2 ∧ t = 16384 ∧ x < 16384 ∨ n = 4 ∧ t = 2147483648 ∧ x < 1073741824 ∨ n = 8 ∧ t = 13835058055282163712 ∧ x < 4611686018427387904) :
    rvV (bigD (x + t) n) = x ∧ rvL (bigD (x + t) n) = n ∧ rvE (bigD (x + t) n) = 0 ∧ varLenV x ≤ n := by
  have hhead : rvN ((bigD (x + t) n).headD 0) = n := by
    rcases hc with ⟨rfl, rfl, h⟩ | ⟨rfl, rfl, h⟩ | ⟨rfl, rfl, h⟩ | ⟨rfl, rfl, h⟩
    · rw [bigD_1]; exact rvN_byt _ 1 (.inl ⟨rfl, by omega⟩)
    · rw [bigD_2]; exact rvN_byt _ 2 (.inr (.inl ⟨rfl, by omega, by omega⟩))
    · rw [bigD_4]; exact rvN_byt _ 4 (.inr (.inr (.inl ⟨rfl, by omega, by omega⟩)))
    · rw [bigD_8]; exact rvN_byt _ 8 (.inr (.inr (.inr ⟨rfl, by omega⟩)))
  have hn1 : 1 ≤ n ∧ n ≤ 8 := by omega
  have hh : rvHave (bigD (x + t) n) = true := by
    simp only [rvHave, decide_eq_true_eq]
    rw [hhead, bigD_length]
    omega
  have hrb := (rbV_bigD (x + t) n hn1.2 []).1
  rw [List.append_nil] at hrb
  unfold rvV rvL rvE
  rw [hh, if_pos rfl, if_pos rfl, if_pos rfl, hhead]
  refine ⟨?_, rfl, rfl, ?_⟩
  · rw [hrb]
    rcases hc with ⟨rfl, rfl, h⟩ | ⟨rfl, rfl, h⟩ | ⟨rfl, rfl, h⟩ | ⟨rfl, rfl, h⟩
    · rw [show rvMask ((1 : Nat) : Int) = 64 from rvMask_1, show ((2 : Int) ^ (8 * 1)) = 256 by simp]; omega
    · rw [show rvMask ((2 : Nat) : Int) = 16384 from rvMask_2, show ((2 : Int) ^ (8 * 2)) = 65536 by simp]; omega
    · rw [show rvMask ((4 : Nat) : Int) = 1073741824 from rvMask_4, show ((2 : Int) ^ (8 * 4)) = 4294967296 by simp]; omega
    · rw [show rvMask ((8 : Nat) : Int) = 4611686018427387904 from rvMask_8, show ((2 : Int) ^ (8 * 8)) = 18446744073709551616 by simp]; omega
  · rcases varLenV_cases x with h | h | h | h | h <;> omega

theorem longer_or (v : Int) (h0 : 0 ≤ v) (h1 : v ≤ 18446744073709551615) (i : Nat) (hi : i ≤ 62) (p m t : Int) (hp : p = 2 ^ i) (hm : m = 2 ^ i - 1) (ht : t % 2 ^ i = 0) (ht0 : 0 ≤ t) (ht1 : t < 18446744073709551616) : bits .or .u64 (bits .and .u64 v m) t = v % p + t := by
  have hpp : (0 : Int) < 2 ^ i := Int.pow_pos (by omega)
  have ha0 := Int.emod_nonneg v (Int.ne_of_gt hpp)
  have ha1 := Int.emod_lt_of_pos v hpp
  have hle : (2 : Int) ^ i ≤ 2 ^ 62 := by
    have : 2 ^ i ≤ 2 ^ 62 := Nat.pow_le_pow_right (by omega) hi
    have h2 : ((2 ^ i : Nat) : Int) ≤ ((2 ^ 62 : Nat) : Int) := by exact_mod_cast this
    rw [cast_two_pow] at h2
    simpa using h2
  have hle2 : (2 : Int) ^ i ≤ 4611686018427387904 := by simpa using hle
  rw [and64 i h0 (by omega) (by omega) hm, or64_comm, or64 i ht0 ht1 ht ha0 ha1 (by omega), hp]
  omega

set_option maxHeartbeats 1600000 in
theorem walkNumLonger (w : World) (v : Int) (w0 : (Lit.int .u64 v).wf = true) (k : Int) (w1 : (Lit.int .u8 k).wf = true) :
    Calls Try.prog 4 #[.int .u64 v, .int .u8 k] w fun e w' => e = .returned (.bool true) ∧ Below w.heap.size w w' := by
  obtain ⟨hv0, hv1⟩ := wf_u64_iff w0
  obtain ⟨hk0, hk1⟩ := wf_u8_iff w1
  clear w0 w1
  have hq : k % 4 = 0 ∨ k % 4 = 1 ∨ k % 4 = 2 ∨ k % 4 = 3 := by omega
  rcases hq with hq | hq | hq | hq
  · have HO := Lib.hid (longer_or v hv0 hv1 6 (by omega) 64 63 0 (by simp) (by simp) (by simp) (by omega) (by omega))
    have HA : Hid (bits .and .u64 v 63 = v % 64) := by
      show _ = _
      rw [and64 6 hv0 (by omega) (by omega) (by simp)]
      simp
    have hx0 : 0 ≤ v % 64 := by omega
    have hx1 : v % 64 < 64 := by omega
    go_enter Try.func4, Try.ntmps4
    go_wp2_with fail
    refine (known_any w).mono ?_
    rintro e w1 ⟨rfl, hk1⟩
    have HK := Lib.hid hk1
    clear hk1
    go_wp2_with fail
    rw [HO.out, HA.out]
    generalize v % 64 = x at *
    refine (bigr_any (w1.heap.size + 1) none 0 0 [] (x + 0) 1 _ (Bo.nil _ _).bd (by simp) (by omega) (by omega) (by omega)).mono ?_
    rintro e w2 ⟨a2, c2, rfl, ho2, hk2, _⟩
    have HO2 := Lib.hid ho2
    have HK2 := Lib.hid (Keeps.mine_below (HK.out.alloc HK.out.size _) hk2 (by have := HK.out.size; simp; omega) (by have := HK.out.size; omega))
    clear ho2 hk2
    have HR := Lib.hid (rv_long x hx0 1 0 (by omega))
    go_wp2_with fail
    refine (readvar_any a2 _ c2 (bigD (x + 0) 1) w2 (by have := HO2.out.by; simpa [show cnt 1 = 1 from rfl] using this)).mono ?_
    rintro e w' ⟨rfl, rfl⟩
    rw [HR.out.1, HR.out.2.1, HR.out.2.2.1]
    go_wp2_with fail
    refine (varlen_any x w2 hx0).mono ?_
    rintro e w' ⟨rfl, rfl⟩
    have hle := HR.out.2.2.2
    go_wp2_with fail
    go_returns
    exact ⟨by simp; omega, HK2.out⟩
  · have HO := Lib.hid (longer_or v hv0 hv1 14 (by omega) 16384 16383 16384 (by simp) (by simp) (by simp) (by omega) (by omega))
    have HA : Hid (bits .and .u64 v 16383 = v % 16384) := by
      show _ = _
      rw [and64 14 hv0 (by omega) (by omega) (by simp)]
      simp
    have hx0 : 0 ≤ v % 16384 := by omega
    have hx1 : v % 16384 < 16384 := by omega
    go_enter Try.func4, Try.ntmps4
    go_wp2_with fail
    refine (known_any w).mono ?_
    rintro e w1 ⟨rfl, hk1⟩
    have HK := Lib.hid hk1
    clear hk1
    go_wp2_with fail
    rw [HO.out, HA.out]
    generalize v % 16384 = x at *
    refine (bigr_any (w1.heap.size + 1) none 0 0 [] (x + 16384) 2 _ (Bo.nil _ _).bd (by simp) (by omega) (by omega) (by omega)).mono ?_
    rintro e w2 ⟨a2, c2, rfl, ho2, hk2, _⟩
    have HO2 := Lib.hid ho2
    have HK2 := Lib.hid (Keeps.mine_below (HK.out.alloc HK.out.size _) hk2 (by have := HK.out.size; simp; omega) (by have := HK.out.size; omega))
    clear ho2 hk2
    have HR := Lib.hid (rv_long x hx0 2 16384 (by omega))
    go_wp2_with fail
    refine (readvar_any a2 _ c2 (bigD (x + 16384) 2) w2 (by have := HO2.out.by; simpa [show cnt 2 = 2 from rfl] using this)).mono ?_
    rintro e w' ⟨rfl, rfl⟩
    rw [HR.out.1, HR.out.2.1, HR.out.2.2.1]
    go_wp2_with fail
    refine (varlen_any x w2 hx0).mono ?_
    rintro e w' ⟨rfl, rfl⟩
    have hle := HR.out.2.2.2
    go_wp2_with fail
    go_returns
    exact ⟨by simp; omega, HK2.out⟩
  · have HO := Lib.hid (longer_or v hv0 hv1 30 (by omega) 1073741824 1073741823 2147483648 (by simp) (by simp) (by simp) (by omega) (by omega))
    have HA : Hid (bits .and .u64 v 1073741823 = v % 1073741824) := by
      show _ = _
      rw [and64 30 hv0 (by omega) (by omega) (by simp)]
      simp
    have hx0 : 0 ≤ v % 1073741824 := by omega
    have hx1 : v % 1073741824 < 1073741824 := by omega
    go_enter Try.func4, Try.ntmps4
    go_wp2_with fail
    refine (known_any w).mono ?_
    rintro e w1 ⟨rfl, hk1⟩
    have HK := Lib.hid hk1
    clear hk1
    go_wp2_with fail
    rw [HO.out, HA.out]
    generalize v % 1073741824 = x at *
    refine (bigr_any (w1.heap.size + 1) none 0 0 [] (x + 2147483648) 4 _ (Bo.nil _ _).bd (by simp) (by omega) (by omega) (by omega)).mono ?_
    rintro e w2 ⟨a2, c2, rfl, ho2, hk2, _⟩
    have HO2 := Lib.hid ho2
    have HK2 := Lib.hid (Keeps.mine_below (HK.out.alloc HK.out.size _) hk2 (by have := HK.out.size; simp; omega) (by have := HK.out.size; omega))
    clear ho2 hk2
    have HR := Lib.hid (rv_long x hx0 4 2147483648 (by omega))
    go_wp2_with fail
    refine (readvar_any a2 _ c2 (bigD (x + 2147483648) 4) w2 (by have := HO2.out.by; simpa [show cnt 4 = 4 from rfl] using this)).mono ?_
    rintro e w' ⟨rfl, rfl⟩
    rw [HR.out.1, HR.out.2.1, HR.out.2.2.1]
    go_wp2_with fail
    refine (varlen_any x w2 hx0).mono ?_
    rintro e w' ⟨rfl, rfl⟩
    have hle := HR.out.2.2.2
    go_wp2_with fail
    go_returns
    exact ⟨by simp; omega, HK2.out⟩
  · have HO := Lib.hid (longer_or v hv0 hv1 62 (by omega) 4611686018427387904 4611686018427387903 13835058055282163712 (by simp) (by simp) (by simp) (by omega) (by omega))
    have HA : Hid (bits .and .u64 v 4611686018427387903 = v % 4611686018427387904) := by
      show _ = _
      rw [and64 62 hv0 (by omega) (by omega) (by simp)]
      simp
    have hx0 : 0 ≤ v % 4611686018427387904 := by omega
    have hx1 : v % 4611686018427387904 < 4611686018427387904 := by omega
    go_enter Try.func4, Try.ntmps4
    go_wp2_with fail
    refine (known_any w).mono ?_
    rintro e w1 ⟨rfl, hk1⟩
    have HK := Lib.hid hk1
    clear hk1
    go_wp2_with fail
    rw [HO.out, HA.out]
    generalize v % 4611686018427387904 = x at *
    refine (bigr_any (w1.heap.size + 1) none 0 0 [] (x + 13835058055282163712) 8 _ (Bo.nil _ _).bd (by simp) (by omega) (by omega) (by omega)).mono ?_
    rintro e w2 ⟨a2, c2, rfl, ho2, hk2, _⟩
    have HO2 := Lib.hid ho2
    have HK2 := Lib.hid (Keeps.mine_below (HK.out.alloc HK.out.size _) hk2 (by have := HK.out.size; simp; omega) (by have := HK.out.size; omega))
    clear ho2 hk2
    have HR := Lib.hid (rv_long x hx0 8 13835058055282163712 (by omega))
    go_wp2_with fail
    refine (readvar_any a2 _ c2 (bigD (x + 13835058055282163712) 8) w2 (by have := HO2.out.by; simpa [show cnt 8 = 8 from rfl] using this)).mono ?_
    rintro e w' ⟨rfl, rfl⟩
    rw [HR.out.1, HR.out.2.1, HR.out.2.2.1]
    go_wp2_with fail
    refine (varlen_any x w2 hx0).mono ?_
    rintro e w' ⟨rfl, rfl⟩
    have hle := HR.out.2.2.2
    go_wp2_with fail
    go_returns
    exact ⟨by simp; omega, HK2.out⟩

end Go.Proofs.Ytffffgpahdkngab
