/- The walk of NumBigs. -/
import Derived.Test.YtffffgpahdkngaaNumG
import Derived.Deep.RegionWith
namespace Go.Proofs.Ytffffgpahdkngaa
open Go.RowKit Go.Deep

theorem By.cut {w : World} {a : Option Addr} {n cap : Nat} {xs : List UInt8} (h : By w a n cap xs) : By w a n n xs := ⟨h.1, Nat.le_refl _, Nat.le_trans h.2.le h.2.max, h.2.len, h.2.at_⟩

theorem By.tail {w : World} {a : Option Addr} {m k cap : Nat} {xs ys : List UInt8} (h : By w a (m + k) cap (xs ++ ys)) (hm : m = xs.length) : By w (if cap = m then a else a.map (·.add (m * 1))) k (cap - m) ys := by
  have := h.sub m (m + k) (by omega) (Nat.le_refl _)
  have e : m + k - m = k := by omega
  rw [e] at this
  have e2 : ((xs ++ ys).drop m).take k = ys := by
    subst hm
    have := h.1
    rw [List.drop_left, List.take_of_length_le (by simp at this; omega)]
  rwa [e2] at this

theorem mask_of (v : Int) (k : Nat) (h0 : 0 ≤ v) (h1 : v ≤ 18446744073709551615) : (k < 8 → bits .and .u64 v (IntKind.u64.wrap (IntKind.u64.wrap ((2 : Int) ^ (8 * k)) - 1)) = v % 2 ^ (8 * k)) ∧ (8 ≤ k → v % 2 ^ (8 * k) = v) := by
  constructor
  · intro hk
    have hp : (1 : Nat) ≤ 2 ^ (8 * k) := Nat.one_le_two_pow
    have hq : 2 ^ (8 * k) ≤ 2 ^ 56 := Nat.pow_le_pow_right (by omega) (by omega)
    have e : ((2 : Int) ^ (8 * k)) = ((2 ^ (8 * k) : Nat) : Int) := (cast_two_pow _).symm
    have hw : IntKind.u64.wrap (IntKind.u64.wrap ((2 : Int) ^ (8 * k)) - 1) = 2 ^ (8 * k) - 1 := by
      rw [IntKind.wrap_u64, IntKind.wrap_u64, e]
      omega
    rw [hw]
    exact and64 (8 * k) h0 (by omega) (by omega) rfl
  · intro hk
    have hq : 2 ^ 64 ≤ 2 ^ (8 * k) := Nat.pow_le_pow_right (by omega) (by omega)
    have e : ((2 : Int) ^ (8 * k)) = ((2 ^ (8 * k) : Nat) : Int) := (cast_two_pow _).symm
    rw [e]
    exact Int.emod_eq_of_lt h0 (by omega)

theorem bigr_full (a : Option Addr) (m cap : Nat) (xs : List UInt8) (v n : Int) (w : World) (hd : By w a m cap xs) (hl : m ≤ 1099511627776) (hv0 : 0 ≤ v) (hv1 : v ≤ 18446744073709551615) :
    Calls Try.prog 14 #[.slice a m m, .int .u64 v, .int .i64 n] w fun e w' => ∃ a' cap', e = .returned (.slice a' (m + cnt n) cap') ∧ By w' a' (m + cnt n) cap' (xs ++ bigD v (cnt n)) ∧ Below w.heap.size w w' := by
  refine (bigr_any w.heap.size a m m xs v n w hd.cut.full (Nat.le_refl _) hl hv0 hv1).mono ?_
  rintro e w' ⟨a', c', rfl, h1, h2, _⟩
  exact ⟨a', c', rfl, h1.by, Keeps.mine_below (Below.refl _ _) h2 (Nat.le_refl _) (Nat.le_refl _)⟩

set_option maxHeartbeats 800000 in
theorem walkNumBigs (w : World) (v0 : Value) (h0 : Arg Try.prog w 22 v0) (v : Int) (w1 : (Lit.int .u64 v).wf = true) (n : Int) (w2 : (Lit.int .i64 n).wf = true) :
    Calls Try.prog 4 #[v0, .int .u64 v, .int .i64 n] w fun e w' => e = .returned (.bool true) ∧ Below w.heap.size w w' := by
  obtain ⟨a, m, cap, xs, rfl, hby, hkeep⟩ := h0.bytes
  obtain ⟨hv0, hv1⟩ := wf_u64_iff w1
  have HKEEP := Lib.hid hkeep
  have hcap := hby.2.le
  have hmax := hby.2.max
  unfold maxLen at hmax
  clear hby hkeep h0 w1 w2
  go_enter Try.func4, Try.ntmps4
  go_wp2_with fail
  refine (known_any w).mono ?_
  rintro e w1 ⟨rfl, hk1⟩
  have HB := Lib.hid (HKEEP.out w1 hk1)
  have HK := Lib.hid hk1
  clear hk1
  by_cases h100 : 100 < m
  · go_wp2_with fail
    go_returns
    exact ⟨rfl, HK.out⟩
  · go_wp2_with fail
    refine (big_any a m cap xs v n w1 HB.out (by omega) hv0 hv1).mono ?_
    rintro e w2 ⟨a2, c2, rfl, ho2, hk2⟩
    have HO2 := Lib.hid ho2
    have HK2 := Lib.hid (HK.out.trans (hk2.mono HK.out.size))
    clear ho2 hk2
    go_wp2_with fail
    have HD := Lib.hid (HKEEP.out w2.drew HK2.out.drew)
    have HC := Lib.hid (show By w2.drew a2 (m + cnt n) c2 _ from ⟨HO2.out.1, HO2.out.by.2.drew⟩)
    go_region_with (first | (go_at_call 14; refine (bigr_full a m cap xs v n _ HD.out (by omega) hv0 hv1).mono ?_; rintro e w3 ⟨a3, c3, rfl, ho3, hk3⟩) | (refine By.upon HC.out ?_) | (refine By.upon ho3 ?_) | (refine By.upon (HC.out.below hk3 HO2.out.lt) ?_))
    all_goals have HK3 := Lib.hid (HK2.out.drew.trans (Below.mono hk3 HK2.out.drew.size))
    all_goals have HC3 := Lib.hid (HC.out.below hk3 HO2.out.lt)
    all_goals clear hk3 ho3
    all_goals have hc2 := HO2.out.by.2.le
    all_goals have hcm2 := HO2.out.by.2.max
    all_goals unfold maxLen at hcm2
    all_goals have hpn := pos_eq n
    all_goals have hcn := cnt_val n
    all_goals have hc8 := cnt_le n
    all_goals have hxm : m = xs.length := HB.out.1
    all_goals have HT := HC3.out.tail hxm
    all_goals have HXM := Lib.hid hxm
    all_goals clear hxm
    all_goals have HV := Lib.hid (rbV_bigD v (cnt n) hc8 [])
    all_goals rw [List.append_nil, bigD_length] at HV
    all_goals have HA := Lib.hid (mask_of v (cnt n) hv0 hv1)
    all_goals by_cases hcm : c2 = m
    all_goals (first | (rw [if_pos hcm, hcm, Nat.sub_self] at HT) | (rw [if_neg hcm] at HT; simp only [Nat.mul_one] at HT))
    all_goals have HTT := Lib.hid HT
    all_goals clear HT
    all_goals have HP0 : Hid (c2 = m → pos n = ((cnt n : Nat) : Int)) := (by show _ → _; intro h; split at hcn <;> omega)
    all_goals go_wp2_with fail
    all_goals (try rw [HP0.out (by assumption)])
    all_goals refine (readbig_any _ _ _ (bigD v (cnt n)) _ w3 HTT.out).mono ?_
    all_goals rintro e w' ⟨rfl, rfl⟩
    all_goals rw [HV.out.1, HV.out.2]
    all_goals go_wp2_with fail
    all_goals first
      | (exfalso; have h : ¬ v % 2 ^ (8 * cnt n) = bits .and .u64 v (IntKind.u64.wrap (IntKind.u64.wrap ((2 : Int) ^ (8 * cnt n)) - 1)) := (by assumption); exact h (HA.out.1 (by omega)).symm)
      | (exfalso; have h : ¬ v % 2 ^ (8 * cnt n) = v := (by assumption); exact h (HA.out.2 (by omega)))
      | (go_returns; exact ⟨rfl, HK3.out⟩)

end Go.Proofs.Ytffffgpahdkngaa
