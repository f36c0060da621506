/- The walk of NumPrefixes. -/
import Derived.Test.YtffffgpahdkngaaNumH
import Derived.Deep.RegionWith
namespace Go.Proofs.Ytffffgpahdkngaa
open Go.RowKit Go.Deep

theorem preT_le : ∀ (k : Nat) (x : Int), (preT k x).length ≤ k := by
  intro k
  induction k with
  | zero => intro x; exact Nat.le_refl _
  | succ k ih =>
    intro x
    unfold preT
    split
    · simp
    · have := ih (x / 128)
      simp
      omega
theorem preE_le (first n v : Int) : (preE first n v).length ≤ 11 := by
  unfold preE
  split
  · simp
  · have := preT_le 10 (v - preM n)
    simp
    omega

set_option maxHeartbeats 1600000 in
theorem walkNumPrefixes (w : World) (v0 : Value) (h0 : Arg Try.prog w 22 v0) (first : Int) (w1 : (Lit.int .u8 first).wf = true) (n : Int) (w2 : (Lit.int .i64 n).wf = true) (v : Int) (w3 : (Lit.int .u64 v).wf = true) (v4 : Value) (h4 : Arg Try.prog w 22 v4) :
    Calls Try.prog 3 #[v0, .int .u8 first, .int .i64 n, .int .u64 v, v4] w fun e w' => e = .returned (.bool true) ∧ Below w.heap.size w w' := by
  obtain ⟨a, m, cap, xs, rfl, hby, hkeep⟩ := h0.bytes
  obtain ⟨a5, m5, cap5, ys, rfl, hby5, hkeep5⟩ := h4.bytes
  obtain ⟨hv0, hv1⟩ := wf_u64_iff w3
  obtain ⟨hf0, hf1⟩ := wf_u8_iff w1
  have hf1 : first < 256 := by omega
  have HKEEP := Lib.hid hkeep
  have HKEEP5 := Lib.hid hkeep5
  have hcap := hby.2.le
  have hmax := hby.2.max
  have hcap5 := hby5.2.le
  have hmax5 := hby5.2.max
  have HXM : Hid (m = xs.length) := hby.1
  unfold maxLen at hmax hmax5
  clear hby hkeep h0 w1 w2 w3 hby5 hkeep5 h4
  go_enter Try.func3, Try.ntmps3
  go_wp2_with fail
  refine (known_any w).mono ?_
  rintro e w1 ⟨rfl, hk1⟩
  have HB := Lib.hid (HKEEP.out w1 hk1)
  have HK := Lib.hid hk1
  clear hk1
  by_cases h100 : 100 < m
  · go_wp2_with fail
    go_returns
    exact ⟨rfl, HK.out⟩
  by_cases h500 : 100 < m5
  · go_wp2_with fail
    go_returns
    exact ⟨rfl, HK.out⟩
  · go_wp2_with fail
    refine (prefix_any a m cap xs first n v w1 HB.out (by omega) hf0 hf1 hv0 hv1).mono ?_
    rintro e w2 ⟨a2, m2, c2, rfl, ho2, hk2⟩
    have HO2 := Lib.hid ho2
    have HK2 := Lib.hid (HK.out.trans (hk2.mono HK.out.size))
    clear ho2 hk2
    go_wp2_with fail
    have HD := Lib.hid (HKEEP.out w2.drew HK2.out.drew)
    have HC := Lib.hid (show By w2.drew a2 m2 c2 _ from ⟨HO2.out.1, HO2.out.by.2.drew⟩)
    go_region_with (first | (go_at_call 11; refine (prefixr_full a m cap xs first n v _ HD.out (by omega) hf0 hf1 hv0 hv1).mono ?_; rintro e w3 ⟨a3, m3, c3, rfl, ho3, hk3⟩) | (refine By.upon HC.out ?_) | (refine By.upon ho3 ?_) | (refine By.upon (HC.out.below hk3 HO2.out.lt) ?_))
    all_goals have HK3 := Lib.hid (HK2.out.drew.trans (Below.mono hk3 HK2.out.drew.size))
    all_goals have HC3 := Lib.hid (HC.out.below hk3 HO2.out.lt)
    all_goals clear hk3 ho3
    all_goals have hc2 := HO2.out.by.2.le
    all_goals have hcm2 := HO2.out.by.2.max
    all_goals unfold maxLen at hcm2
    all_goals have hml : m ≤ m2 ∧ m2 ≤ m + 11 ∧ m2 - m = (preE first n v).length := (by have h1 := HO2.out.1; have h2 := HXM.out; have h3 := preE_le first n v; simp at h1; omega)
    all_goals have hml1 := hml.1
    all_goals have hml2 := hml.2.1
    all_goals have HPL := Lib.hid hml.2.2
    all_goals clear hml
    all_goals have HT := HC3.out.tail HXM.out
    all_goals by_cases hcm : c2 = m
    all_goals (first | (rw [if_pos hcm, hcm, Nat.sub_self] at HT) | (rw [if_neg hcm] at HT; simp only [Nat.mul_one] at HT))
    all_goals have HTT := Lib.hid HT
    all_goals clear HT
    all_goals go_wp2_with (at_builtin; refine halt ?_)
    all_goals refine Halted.go (wpList_copy8 w3 rfl _ rfl _ _ _ (preE first n v) rfl HTT.out (by omega) ?_)
    all_goals intro a6 c6 w6 ho6 hk6
    all_goals have HO6 := Lib.hid ho6
    all_goals have HK6 := Lib.hid (HK3.out.trans (hk6.mono HK3.out.size))
    all_goals have HW6 := Lib.hid hk6.size
    all_goals clear ho6 hk6
    all_goals have HB5 := Lib.hid (HKEEP5.out w6 HK6.out)
    all_goals have HY := Lib.hid HB5.out.1
    all_goals go_wp2_with (at_builtin; refine halt ?_)
    all_goals refine Halted.go (wpList_app8 w6 rfl _ _ 22 rfl w3.heap.size a6 _ c6 (preE first n v) rfl HO6.out.bd (.slice a5 m5 cap5) rfl ys (by have h := HB5.out.2.src Try.underlying22 (Bs_one ys); rw [HY.out] at h ⊢; exact h) (by have := HY.out; omega) HW6.out ?_)
    all_goals intro a7 c7 w7 ho7 hk7 hn7 _ _
    all_goals have HO7 := Lib.hid ho7
    all_goals have HK7 := Lib.hid (Keeps.mine_below HK6.out hk7 HK6.out.size HK3.out.size)
    all_goals clear ho7 hk7 hn7
    all_goals go_wp2_with fail
    all_goals refine (readprefix_any a7 _ c7 (preE first n v ++ ys) n w7 HO7.out.by).mono ?_
    all_goals rintro e w' ⟨rfl, rfl⟩
    all_goals rw [rpR_preE first n v hf0 hf1 hv0 hv1 ys, ← HPL.out]
    all_goals by_cases hvm : v ≤ 4611686018427387903
    all_goals (first | rw [if_pos hvm] | rw [if_neg hvm])
    all_goals go_wp2_with fail
    all_goals have HEQ : Hid (((((m2 - m : Nat) : Int) == (m2 : Int) - (m : Int))) = true) := (by show _ = _; simp; omega)
    all_goals go_returns
    all_goals refine ⟨?_, HK7.out⟩
    all_goals (first | rfl | (rw [HEQ.out]; rfl))

end Go.Proofs.Ytffffgpahdkngaa
