/- The walk of NumCuts. -/
import Derived.Test.YtffffgpahdkngabNumI
namespace Go.Proofs.Ytffffgpahdkngab
open Go.RowKit Go.Deep

theorem rv_cut (v : Int) (h0 : 0 ≤ v) (h1 : v ≤ 4611686018427387903) (i : Nat) (hi : i < (varE v).length) : rvL ((varE v).take i) = 0 ∧ rvE ((varE v).take i) = 20 := by
  obtain ⟨hv, hl, he⟩ := rv_varE v h0 h1 []
  rw [List.append_nil] at hv hl he
  have hlen := varE_length v (by rcases varLenV_cases v with h | h | h | h | h <;> omega)
  have hh : rvHave ((varE v).take i) = false := by
    simp only [rvHave, decide_eq_false_iff_not]
    intro hc
    obtain ⟨c1, c2⟩ := hc
    have hpos : rvHave (varE v) = true := by
      by_cases h : rvHave (varE v) = true
      · exact h
      · exfalso
        unfold rvE at he
        rw [if_neg h] at he
        cases he
    have hL : rvN ((varE v).headD 0) = varLenV v := by unfold rvL at hl; rw [hpos, if_pos rfl] at hl; exact hl
    have e : ((varE v).take i).headD 0 = (varE v).headD 0 := by
      cases hE : varE v with
      | nil => rw [hE] at hi; simp at hi
      | cons c cs =>
        cases i with
        | zero => simp at c1
        | succ i => rfl
    rw [e, hL, ← hlen] at c2
    simp at c2
    omega
  unfold rvL rvE
  rw [hh]
  exact ⟨rfl, rfl⟩

theorem rpT_cut : ∀ (k i : Nat) (V x : Int) (j : Nat), 0 ≤ V → 0 ≤ x → V + x * 2 ^ (7 * i) ≤ 4611686018427387903 → j < (preT (k + 1) x).length → rpT (k + 1) V i ((preT (k + 1) x).take j) = (0, 0, 20) := by
  intro k
  induction k with
  | zero =>
    intro i V x j h0 h2 h4 hj
    have : j = 0 := by
      by_cases hx : x < 128
      · rw [preT_small 0 x hx] at hj; simp at hj; omega
      · rw [preT_big 0 x (by omega)] at hj; simp [preT] at hj; omega
    subst this
    rw [List.take_zero, rpT]
  | succ k ih =>
    intro i V x j h0 h2 h4 hj
    cases j with
    | zero => rw [List.take_zero, rpT]
    | succ j =>
      have hp : (0 : Int) < 2 ^ (7 * i) := Int.pow_pos (by omega)
      by_cases hx : x < 128
      · rw [preT_small (k + 1) x hx] at hj; simp at hj
      · rw [preT_big (k + 1) x (by omega)] at hj ⊢
        rw [List.take_succ_cons, rpT, byt_val]
        have e1 : (x % 128 + 128) % 256 % 128 = x % 128 := by omega
        have e2 : ¬ (byt (x % 128 + 128)).toNat < 128 := by have := byt_val (x % 128 + 128); omega
        have hxp : 0 ≤ x % 128 * 2 ^ (7 * i) := Int.mul_nonneg (by omega) (by omega)
        have hxm : x % 128 * 2 ^ (7 * i) ≤ x * 2 ^ (7 * i) := Int.mul_le_mul_of_nonneg_right (by omega) (by omega)
        have hsum : V + x % 128 * 2 ^ (7 * i) + x / 128 * 2 ^ (7 * (i + 1)) = V + x * 2 ^ (7 * i) := by
          rw [Nat.mul_add, Int.pow_add, Int.add_assoc]
          congr 1
          have e : x * 2 ^ (7 * i) = (x % 128 + 128 * (x / 128)) * 2 ^ (7 * i) := by rw [Int.emod_add_mul_ediv]
          rw [e, Int.add_mul, show ((2 : Int) ^ (7 * 1)) = 128 by rfl]
          congr 1
          rw [Int.mul_comm 128, Int.mul_assoc, Int.mul_comm 128]
        have hb : ¬ (4611686018427387903 - V) / 2 ^ (7 * i) < x % 128 := by
          intro hb
          have := Int.lt_mul_of_ediv_lt hp hb
          omega
        rw [e1, if_neg hb, if_neg e2]
        refine ih (i + 1) _ (x / 128) j (by omega) (by omega) (by omega) ?_
        simpa using hj

theorem rpR_cut (n v : Int) (hv0 : 0 ≤ v) (hv1 : v ≤ 4611686018427387903) (j : Nat) (hj : j < (preE 0 n v).length) : rpR ((preE 0 n v).take j) n = (0, 0, 20) := by
  have hm := preM_bd n
  obtain ⟨t0, t1, t2⟩ := preTop_bd 0 n (by omega) (by omega)
  cases j with
  | zero => rw [List.take_zero, rpR]
  | succ j =>
    unfold preE at hj ⊢
    by_cases h : v < preM n
    · rw [if_pos h] at hj; simp at hj
    · rw [if_neg h] at hj ⊢
      have hpart : ((byt (preTop 0 n + preM n)).toNat : Int) % 2 ^ preN n = preM n := by
        rw [byt_val, Int.emod_eq_of_lt (a := preTop 0 n + preM n) (b := 256) (by omega) (by omega), Int.add_emod, t2, Int.zero_add, Int.emod_emod]
        exact Int.emod_eq_of_lt (by omega) (by unfold preM; omega)
      rw [List.take_succ_cons, rpR, hpart, if_neg (by omega)]
      exact rpT_cut 9 0 (preM n) (v - preM n) j (by omega) (by omega) (by simp; omega) (by simpa using hj)

theorem By.head {w : World} {a : Option Addr} {n cap : Nat} {xs : List UInt8} (h : By w a n cap xs) (hi : Nat) (h2 : hi ≤ n) : By w a hi cap (xs.take hi) := by
  have := h.sub 0 hi (by omega) h2
  simp only [Nat.sub_zero, List.drop_zero, Nat.zero_mul] at this
  refine ⟨this.1, by have := h.2.le; omega, h.2.max, this.2.len, ?_⟩
  rcases this.2.at_ with h0 | ⟨b, off, ha, hb, hc⟩
  · exact .inl h0
  · by_cases he : cap = 0
    · rw [if_pos he] at ha; exact .inr ⟨b, off, ha, hb, hc⟩
    · rw [if_neg he] at ha
      refine .inr ⟨b, off, ?_, hb, hc⟩
      cases a with
      | none => cases ha
      | some a => simpa [Addr.add] using ha

set_option maxHeartbeats 800000 in
theorem walkNumCuts (w : World) (v : Int) (w0 : (Lit.int .u64 v).wf = true) (bi : Int) (w1 : (Lit.int .u8 bi).wf = true) (t : Int) (w2 : (Lit.int .u8 t).wf = true) :
    Calls Try.prog 3 #[.int .u64 v, .int .u8 bi, .int .u8 t] w fun e w' => e = .returned (.bool true) ∧ Below w.heap.size w w' := by
  obtain ⟨hv0, hv1⟩ := wf_u64_iff w0
  obtain ⟨hb0, hb1⟩ := wf_u8_iff w1
  obtain ⟨ht0, ht1⟩ := wf_u8_iff w2
  have HV : Hid (bits .and .u64 v 4611686018427387903 = v % 4611686018427387904) := by
    show _ = _
    rw [and64 62 hv0 (by omega) (by omega) (by simp)]
    simp
  have hx0 : 0 ≤ v % 4611686018427387904 := by omega
  have hx1 : v % 4611686018427387904 ≤ 4611686018427387903 := by omega
  clear w0 w1 w2
  go_enter Try.func3, Try.ntmps3
  go_wp2_with fail
  refine (known_any w).mono ?_
  rintro e w1 ⟨rfl, hk1⟩
  have HK := Lib.hid hk1
  clear hk1
  go_wp2_with fail
  rw [HV.out]
  generalize v % 4611686018427387904 = x at *
  refine (var_any none 0 0 [] _ 1 1 [x] _ (By.nil _) (Uv.one w1 _ x hx0 (by omega)) (by omega) (by omega)).mono ?_
  rintro e w2 ⟨a2, n2, c2, rfl, ho2, hk2⟩
  have hok : varsOK [x] = true := by simp [varsOK, hx1]
  have hr : varsR [] [x] = varE x := by unfold varsR; rw [hok]; simp [varsE]
  rw [hr] at ho2
  have HO2 := Lib.hid ho2
  have HK2 := Lib.hid (HK.out.trans ((Below.fresh _ hk2).mono HK.out.size))
  clear ho2 hk2 hok hr
  go_wp2_with fail
  generalize hnn : bi % 8 + 1 = n
  refine (prefix_any none 0 0 [] 0 n x w2 (By.nil _) (by omega) (by omega) (by omega) hx0 (by omega)).mono ?_
  rintro e w3 ⟨a3, n3, c3, rfl, ho3, hk3⟩
  have HO3 := Lib.hid ho3
  have HK3 := Lib.hid (HK2.out.trans (hk3.mono HK2.out.size))
  have HB3 := Lib.hid (HO2.out.by.below hk3 HO2.out.lt)
  have HNN := Lib.hid hnn
  clear ho3 hk3 hnn
  have hp2 : 0 < n2 := by
    have h1 := HO2.out.1
    have h2 := varE_length x (by rcases varLenV_cases x with h | h | h | h | h <;> omega)
    rcases varLenV_cases x with h | h | h | h | h <;> omega
  have hp3 : 0 < n3 := by
    have h1 := HO3.out.1
    have h2 : 0 < (preE 0 n x).length := by unfold preE; split <;> simp
    simp at h1
    omega
  have hc2 := HO2.out.by.2.le
  have hm2 := HO2.out.by.2.max
  have hc3 := HO3.out.by.2.le
  have hm3 := HO3.out.by.2.max
  unfold maxLen at hm2 hm3
  have q2a : 0 ≤ t % (n2 : Int) := Int.emod_nonneg _ (by omega)
  have q2b : t % (n2 : Int) < n2 := Int.emod_lt_of_pos _ (by omega)
  have q3a : 0 ≤ t % (n3 : Int) := Int.emod_nonneg _ (by omega)
  have q3b : t % (n3 : Int) < n3 := Int.emod_lt_of_pos _ (by omega)
  have e2 : t.tmod (n2 : Int) = t % (n2 : Int) := Int.tmod_eq_emod_of_nonneg ht0
  have e3 : t.tmod (n3 : Int) = t % (n3 : Int) := Int.tmod_eq_emod_of_nonneg ht0
  go_wp2_with (go_quiet (fail))
  have i2 : (t % (n2 : Int)).toNat < n2 := by omega
  have i3 : (t % (n3 : Int)).toNat < n3 := by omega
  have R2 := Lib.hid (rv_cut x hx0 hx1 (t % (n2 : Int)).toNat (by have := HO2.out.1; omega))
  have R3 := Lib.hid (rpR_cut n x hx0 hx1 (t % (n3 : Int)).toNat (by have := HO3.out.1; simp at this; omega))
  refine (readvar_any a2 _ c2 ((varE x).take (t % (n2 : Int)).toNat) _ (?_ : By (w3.drewN nq) _ _ _ _)).mono ?_
  · have h := HB3.out.head (t % (n2 : Int)).toNat (by omega)
    exact ⟨h.1, h.2.drewN _⟩
  rintro e w' ⟨rfl, rfl⟩
  rw [R2.out.1, R2.out.2]
  go_wp2_with (go_quiet (fail))
  rw [HNN.out]
  refine (readprefix_any a3 _ c3 ((preE 0 n x).take (t % (n3 : Int)).toNat) n _ (?_ : By (w3.drewN nq) _ _ _ _)).mono ?_
  · have h := HO3.out.by.head (t % (n3 : Int)).toNat (by omega)
    rw [List.nil_append] at h
    exact ⟨h.1, h.2.drewN _⟩
  rintro e w' ⟨rfl, rfl⟩
  rw [R3.out]
  go_wp2_with (go_quiet (fail))
  go_returns
  exact ⟨rfl, Below.drewN' HK3.out _⟩

end Go.Proofs.Ytffffgpahdkngab
