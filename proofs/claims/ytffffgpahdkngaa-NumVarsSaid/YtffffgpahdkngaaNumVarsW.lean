/- The walk of NumVars. -/
import Derived.Test.YtffffgpahdkngaaNumI
import Derived.Deep.RegionWith
namespace Go.Proofs.Ytffffgpahdkngaa
open Go.RowKit Go.Deep

theorem varsr_full (a : Option Addr) (m cap : Nat) (xs : List UInt8) (a2 : Option Addr) (m2 cap2 : Nat) (vs : List Int) (w : World) (hd : By w a m cap xs) (hv : Uv w a2 m2 cap2 vs) (hl : m ≤ 1000000000) (hl2 : m2 ≤ 1000000000) :
    Calls Try.prog 19 #[.slice a m m, .slice a2 m2 cap2] w fun e w' => ∃ a' n' cap', e = .returned (.tuple #[.slice a' n' cap', .int .i64 (varsErr vs)]) ∧ By w' a' n' cap' (varsR xs vs) ∧ Below w.heap.size w w' := by
  refine (varsr_any w.heap.size a m m xs a2 m2 cap2 vs w hd.cut.full hv (Nat.le_refl _) (fun hm b hb h => by have := hv.lt hm b hb; have := h.1; omega) hl hl2).mono ?_
  rintro e w' ⟨a', n', c', rfl, h1, h2, _⟩
  exact ⟨a', n', c', rfl, h1.by, Keeps.mine_below (Below.refl _ _) h2 (Nat.le_refl _) (Nat.le_refl _)⟩

theorem varE_le (v : Int) : (varE v).length ≤ 8 := by unfold varE; (repeat' split) <;> simp [bigD_length]
theorem varsE_le : ∀ vs : List Int, (varsE vs).length ≤ 8 * vs.length := by
  intro vs
  induction vs with
  | nil => simp [varsE]
  | cons v vs ih =>
    have := varE_le v
    have e : varsE (v :: vs) = varE v ++ varsE vs := by simp [varsE]
    rw [e, List.length_append, List.length_cons]
    omega
theorem varsE_at (vs : List Int) (i : Nat) (hi : i < vs.length) : varsE vs = varsE (vs.take i) ++ (varE vs[i] ++ varsE (vs.drop (i + 1))) := by
  have e : vs = vs.take i ++ (vs[i] :: vs.drop (i + 1)) := by rw [← List.drop_eq_getElem_cons hi, List.take_append_drop]
  conv => lhs; rw [e]
  unfold varsE
  rw [List.flatMap_append, List.flatMap_cons]
theorem varsOK_at {vs : List Int} (h : varsOK vs = true) (i : Nat) (hi : i < vs.length) : vs[i] ≤ 4611686018427387903 := by
  have := List.all_eq_true.1 h vs[i] (List.getElem_mem hi)
  simpa using this

set_option maxHeartbeats 1600000 in
theorem walkNumVars (w : World) (v0 : Value) (h0 : Arg Try.prog w 22 v0) (v1 : Value) (h1 : Arg Try.prog w 35 v1) (v2 : Value) (h2 : Arg Try.prog w 22 v2) :
    Calls Try.prog 7 #[v0, v1, v2] w fun e w' => e = .returned (.bool true) ∧ Below w.heap.size w w' := by
  obtain ⟨a, m, cap, xs, rfl, hby, hkeep⟩ := h0.bytes
  obtain ⟨a1, m1, cap1, vs, rfl, hby1, hkeep1⟩ := h1.nums
  obtain ⟨a5, m5, cap5, ys, rfl, hby5, hkeep5⟩ := h2.bytes
  have HKEEP := Lib.hid hkeep
  have HKEEP1 := Lib.hid hkeep1
  have HKEEP5 := Lib.hid hkeep5
  have hcap := hby.2.le
  have hmax := hby.2.max
  have HXM : Hid (m = xs.length) := hby.1
  have HVM : Hid (m1 = vs.length) := hby1.1
  have HYM : Hid (m5 = ys.length) := hby5.1
  unfold maxLen at hmax
  clear hby hkeep h0 hby5 hkeep5 h2 hby1 hkeep1 h1
  go_enter Try.func7, Try.ntmps7
  go_wp2_with fail
  refine (known_any w).mono ?_
  rintro e w1 ⟨rfl, hk1⟩
  have HB := Lib.hid (HKEEP.out w1 hk1)
  have HU := Lib.hid (HKEEP1.out w1 hk1)
  have HK := Lib.hid hk1
  clear hk1
  by_cases h100 : 100 < m ∨ 20 < m1 ∨ 100 < m5
  · rcases h100 with h | h | h
    · go_wp2_with fail
      go_returns
      exact ⟨rfl, HK.out⟩
    · by_cases h' : 100 < m
      · go_wp2_with fail
        go_returns
        exact ⟨rfl, HK.out⟩
      · go_wp2_with fail
        go_returns
        exact ⟨rfl, HK.out⟩
    · by_cases h' : 100 < m
      · go_wp2_with fail
        go_returns
        exact ⟨rfl, HK.out⟩
      · by_cases h'' : 20 < m1
        · go_wp2_with fail
          go_returns
          exact ⟨rfl, HK.out⟩
        · go_wp2_with fail
          go_returns
          exact ⟨rfl, HK.out⟩
  · have l1 : ¬ 100 < m := fun h => h100 (.inl h)
    have l2 : ¬ 20 < m1 := fun h => h100 (.inr (.inl h))
    have l3 : ¬ 100 < m5 := fun h => h100 (.inr (.inr h))
    clear h100
    go_wp2_with fail
    refine By.upon HB.out ?_
    go_wp2_with fail
    refine (var_any a m cap xs a1 m1 cap1 vs w1 HB.out HU.out (by omega) (by omega)).mono ?_
    rintro e w2 ⟨a2, m2, c2, rfl, ho2, hk2⟩
    have HO2 := Lib.hid ho2
    have HK2 := Lib.hid (HK.out.trans (hk2.mono HK.out.size))
    clear ho2 hk2
    have HB2 := Lib.hid (HKEEP.out w2 HK2.out)
    have HU2 := Lib.hid (HKEEP1.out w2 HK2.out)
    go_wp2_with fail
    refine (varsr_full a m cap xs a1 m1 cap1 vs w2 HB2.out HU2.out (by omega) (by omega)).mono ?_
    rintro e w3 ⟨a3, m3, c3, rfl, ho3, hk3⟩
    have HO3 := Lib.hid ho3
    have HK3 := Lib.hid (HK2.out.trans (hk3.mono HK2.out.size))
    have HC3 := Lib.hid (HO2.out.by.below hk3 HO2.out.lt)
    have HB3 := Lib.hid (HKEEP.out w3 HK3.out)
    clear ho3 hk3
    go_wp2_with fail
    refine By.upon HC3.out ?_
    go_wp2_with fail
    refine By.upon HO3.out ?_
    go_wp2_with fail
    refine By.upon HB3.out ?_
    by_cases hok : varsOK vs = true
    · have he : varsErr vs = 0 := by unfold varsErr; rw [hok]; rfl
      have hr : varsR xs vs = xs ++ varsE vs := by unfold varsR; rw [hok]; rfl
      rw [he]
      rw [hr] at HO2 HC3
      have HOK := Lib.hid hok
      clear hok he hr
      go_wp2_with (at_builtin; refine halt ?_)
      have hc2 := HO2.out.by.2.le
      have hm2 : m2 = m + (varsE vs).length := by have h1 := HO2.out.1; have h2 := HXM.out; simp at h1; omega
      have hle := varsE_le vs
      have hm2b : m2 ≤ 300 := by have := HVM.out; omega
      have HM2 := Lib.hid hm2
      clear hm2 hle
      refine Halted.go (wpList_copy8 w3 rfl _ rfl _ _ _ (xs ++ varsE vs) rfl HC3.out (by omega) ?_)
      intro a6 c6 w6 ho6 hk6
      have HO6 := Lib.hid ho6
      have HK6 := Lib.hid (HK3.out.trans (hk6.mono HK3.out.size))
      have HW6 := Lib.hid hk6.size
      clear ho6 hk6
      have HB5 := Lib.hid (HKEEP5.out w6 HK6.out)
      go_wp2_with (at_builtin; refine halt ?_)
      refine Halted.go (wpList_app8 w6 rfl _ _ 22 rfl w3.heap.size a6 _ c6 (xs ++ varsE vs) rfl HO6.out.bd (.slice a5 m5 cap5) rfl ys (by have h := HB5.out.2.src Try.underlying22 (Bs_one ys); rw [HYM.out] at h ⊢; exact h) (by have := HYM.out; omega) HW6.out ?_)
      intro a7 c7 w7 ho7 hk7 hn7 _ _
      have HO7 := Lib.hid ho7
      have HK7 := Lib.hid (Keeps.mine_below HK6.out hk7 HK6.out.size HK3.out.size)
      have hyl : ys.length ≤ 100 := by have := HYM.out; omega
      have hc7 := ho7.by.2.le
      have hm7 := ho7.by.2.max
      unfold maxLen at hm7
      have HU7 := Lib.hid (HKEEP1.out w7 HK7.out)
      clear ho7 hk7 hn7
      go_wp2_with fail
      go_loopg [12, 14] m1 (fun k va vi wr => ∃ (i t : Nat), k + i = m1 ∧ vi = .int .i64 i ∧ va = .int .i64 t ∧ t = m + (varsE (vs.take i)).length ∧ ∃ q, wr = w7.drewN q)
      case atStart => exact ⟨0, m, by omega, rfl, rfl, by simp [varsE], 0, rfl⟩
      case round =>
        obtain ⟨i, t, hi, rfl, rfl, ht, q, rfl⟩ := hrel
        have HI := Lib.hid hi
        have HT := Lib.hid ht
        clear hi ht
        by_cases hik : i < m1
        · have hix : i < vs.length := by have := HVM.out; omega
          have hU := HU7.out
          obtain ⟨b1, off1, rfl, hb1lt, hcell⟩ := hU.get (by omega)
          have hv0 := (hU.2.2 vs[i] (List.getElem_mem hix)).1
          have hv1 := varsOK_at HOK.out i hix
          have hcx := hcell i hix
          have hcap1 := hU.2.1.le
          have hmax1 := hU.2.1.max
          unfold maxLen at hmax1
          have HVA := Lib.hid (varsE_at vs i hix)
          have HRV := Lib.hid (rv_varE vs[i] hv0 hv1 (varsE (vs.drop (i + 1)) ++ ys))
          have hel := varE_length vs[i] (by rcases varLenV_cases vs[i] with h | h | h | h | h <;> omega)
          have hvl : 1 ≤ varLenV vs[i] ∧ varLenV vs[i] ≤ 8 := by rcases varLenV_cases vs[i] with h | h | h | h | h <;> omega
          have hvl1 := hvl.1
          have hvl2 := hvl.2
          have ht3 : t + (varE vs[i]).length ≤ m2 := by
            have h1 := HT.out
            have h2 := HM2.out
            have h3 := HVA.out
            have h4 : (varsE vs).length = _ := congrArg List.length h3
            simp at h4
            omega
          have ht2 : t ≤ m2 := by omega
          have hct0 : t < c7 := by omega
          have HEL := Lib.hid hel
          clear hel hvl
          have HTL : Hid (By w7 (if c7 = t then a7 else a7.map (·.add (t * 1))) (m2 + ys.length - t) (c7 - t) (varE vs[i] ++ (varsE (vs.drop (i + 1)) ++ ys))) := by
            have e : xs ++ varsE vs ++ ys = (xs ++ varsE (vs.take i)) ++ (varE vs[i] ++ (varsE (vs.drop (i + 1)) ++ ys)) := by rw [HVA.out]; simp
            have h := HO7.out.by
            rw [e] at h
            exact h.tail (by have := HT.out; have := HXM.out; simp; omega)
          clear hcell hU
          by_cases hct : c7 = t
          · omega
          · have HTT := HTL.out
            rw [if_neg hct] at HTT
            simp only [Nat.mul_one] at HTT
            have HTT2 := Lib.hid HTT
            clear HTT
            go_wp2_with fail
            refine (readvar_any _ _ _ _ (w7.drewN q) ⟨HTT2.out.1, HTT2.out.2.drewN q⟩).mono ?_
            rintro e w' ⟨rfl, rfl⟩
            rw [HRV.out.1, HRV.out.2.1, HRV.out.2.2]
            go_wp2_with fail
            refine (varlen_any _ _ hv0).mono ?_
            rintro e w' ⟨rfl, rfl⟩
            go_wp2_with fail
            obtain ⟨g, rfl⟩ : ∃ g, gk = g + 1 := ⟨gk - 1, by have := HI.out; omega⟩
            go_roundg g
            case measure => omega
            case rel =>
              refine ⟨i + 1, t + (varE vs[i]).length, by have := HI.out; omega, by go_num, by rw [← HEL.out]; simp, ?_, q, rfl⟩
              have h := congrArg List.length (varsE_step hix [])
              simp at h
              have := HT.out
              omega
        · have hik2 : i = m1 := by have := HI.out; omega
          have htm : t = m2 := by
            have h1 := HT.out
            have h2 := HM2.out
            rw [hik2, HVM.out, List.take_length] at h1
            omega
          have HTM : Hid (((t : Int) == (m2 : Int)) = true) := by show _ = _; simp [htm]
          clear hik2 htm
          go_wp2_with fail
          go_returns
          exact ⟨by rw [HTM.out]; rfl, Below.drewN' HK7.out q⟩
    · have he : varsErr vs = 21 := by unfold varsErr; rw [if_neg hok]
      rw [he]
      clear he hok
      go_wp2_with fail
      go_returns
      exact ⟨rfl, HK3.out⟩

end Go.Proofs.Ytffffgpahdkngaa
