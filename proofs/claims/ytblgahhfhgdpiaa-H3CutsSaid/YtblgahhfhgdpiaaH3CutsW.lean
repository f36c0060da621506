/- The walk of H3Cuts. -/
import Derived.Test.YtblgahhfhgdpiaaH3M
import Derived.Test.YtblgahhfhgdpiaaZer
namespace Go.Proofs.Ytblgahhfhgdpiaa
open Go.RowKit Go.Deep Go.Maps

theorem long_big (u v : Int) (more : List UInt8) (u0 : 0 ≤ u) (u1 : u ≤ 4611686018427387903) (v0 : 16384 < v) (v1 : v ≤ 4611686018427387903) : frR (varE u ++ (varE v ++ more)) = (0, [], 0, 23) := by
  obtain ⟨k, j, _, _, _, _, e1, e2, e3, e4, e5, e6, _⟩ := two_facts u v more u0 u1 (by omega) v1
  obtain ⟨n, rfl⟩ : ∃ n : Nat, v = n := ⟨v.toNat, by omega⟩
  exact frR_3 e1 e2 e3 e4 e6 v0 e5
theorem long_more (u v : Int) (more : List UInt8) (u0 : 0 ≤ u) (u1 : u ≤ 4611686018427387903) (v0 : 0 ≤ v) (v1 : v ≤ 16384) (h : (more.length : Int) < v) : frR (varE u ++ (varE v ++ more)) = (0, [], 0, 20) := by
  obtain ⟨k, j, _, _, l1, l2, e1, e2, e3, e4, e5, e6, _⟩ := two_facts u v more u0 u1 v0 (by omega)
  obtain ⟨n, rfl⟩ : ∃ n : Nat, v = n := ⟨v.toNat, by omega⟩
  exact frR_4 e1 e2 e3 e4 e6 (by omega) e5 (by simp [l1, l2]; omega)
theorem long_all (u v : Int) (more : List UInt8) (u0 : 0 ≤ u) (u1 : u ≤ 4611686018427387903) (v1 : v ≤ 16384) (h : (more.length : Int) = v) : (frR (varE u ++ (varE v ++ more))).2.1 = more ∧ (frR (varE u ++ (varE v ++ more))).2.2.2 = 0 := by
  obtain ⟨k, j, _, _, l1, l2, e1, e2, e3, e4, e5, e6, e7⟩ := two_facts u v more u0 u1 (by omega) (by omega)
  subst h
  rw [frR_5 e1 e2 e3 e4 e6 (by omega) e5 (by simp [l1, l2]; omega)]
  refine ⟨?_, rfl⟩
  show ((varE u ++ (varE (more.length : Int) ++ more)).drop (k + j)).take more.length = more
  rw [← List.append_assoc, List.drop_left' (by simp [l1, l2]), List.take_length]
theorem cut_fr (f : Fr) (h0 : 0 ≤ f.t) (hok : frOK f = true) (hl : f.xs.length ≤ 16384) (i : Nat) (hi : i < (frE f).length) : frR ((frE f).take i) = (0, [], 0, 20) := by
  obtain ⟨h1, h2⟩ := frOK_le hok
  have e := frE_eq f []
  simp only [List.append_nil] at e
  rw [e] at hi ⊢
  by_cases c1 : i < (varE f.t).length
  · rw [List.take_append_of_le_length (by omega)]
    exact frR_1 (rv_cut f.t h0 h1 i c1).2
  · obtain ⟨i2, rfl⟩ : ∃ i2, i = (varE f.t).length + i2 := ⟨i - (varE f.t).length, by omega⟩
    rw [List.take_length_add_append]
    by_cases c2 : i2 < (varE (f.xs.length : Int)).length
    · rw [List.take_append_of_le_length (by omega)]
      obtain ⟨a1, a2, a3⟩ := rv_varE f.t h0 h1 ((varE (f.xs.length : Int)).take i2)
      have p1 := varLenV_pos h1
      have l1 := varE_length f.t (by omega)
      exact frR_2 (k := (varE f.t).length) (ys := (varE (f.xs.length : Int)).take i2) a3 (by rw [a2, l1]) (by rw [List.drop_left]) (rv_cut _ (by omega) h2 i2 c2).2
    · obtain ⟨i3, rfl⟩ : ∃ i3, i2 = (varE (f.xs.length : Int)).length + i3 := ⟨i2 - (varE (f.xs.length : Int)).length, by omega⟩
      rw [List.take_length_add_append]
      refine long_more f.t _ _ h0 h1 (by omega) (by omega) ?_
      simp at hi ⊢
      omega
theorem frE_2 (f : Fr) (hok : frOK f = true) : 2 ≤ (frE f).length ∧ (frE f).length ≤ 16 + f.xs.length := by
  obtain ⟨h1, h2⟩ := frOK_le hok
  have p1 := varLenV_pos h1
  have p2 := varLenV_pos h2
  have l1 := varE_length f.t (by omega)
  have l2 := varE_length (f.xs.length : Int) (by omega)
  refine ⟨?_, frE_le f⟩
  have e := congrArg List.length (frE_eq f [])
  simp at e
  omega
set_option maxHeartbeats 3200000 in
theorem walkH3Cuts (w : World) (t : Int) (ht : (Lit.int .u64 t).wf = true) (v1 : Value) (h1 : Arg Try.prog w 22 v1) (p : Int) (hp : (Lit.int .u16 p).wf = true) (n : Int) (hn : (Lit.int .u8 n).wf = true) :
    Calls Try.prog 7 #[.int .u64 t, v1, .int .u16 p, .int .u8 n] w fun e w' => e = .returned (.bool true) ∧ Below w.heap.size w w' := by
  obtain ⟨a, m, cap, xs, rfl, hby, hkeep⟩ := h1.bytes
  obtain ⟨t0, t1⟩ := wf_u64_iff ht
  obtain ⟨p0, p1⟩ := wf_u16_iff hp
  obtain ⟨n0, n1⟩ := wf_u8_iff hn
  have HKEEP := Lib.hid hkeep
  have hcap := hby.2.le
  have hmax := hby.2.max
  have HXM : Hid (m = xs.length) := hby.1
  unfold maxLen at hmax
  clear hby hkeep h1 ht hn hp
  go_enter Try.func7, Try.ntmps7
  go_wp2_with fail
  refine (known_any w).mono ?_
  rintro e w1 ⟨rfl, hk1⟩
  have HK := Lib.hid hk1
  have HB := Lib.hid (HKEEP.out w1 hk1)
  clear hk1
  by_cases hm : 200 < m
  · go_wp2_with fail
    go_returns
    exact ⟨rfl, HK.out⟩
  · obtain ⟨T, hT⟩ : ∃ T : Int, t % 4611686018427387904 = T := ⟨_, rfl⟩
    have hand : bits .and .u64 t 4611686018427387903 = T := by rw [and62 t t0 t1, hT]
    have T0 : 0 ≤ T := by omega
    have T1 : T ≤ 4611686018427387903 := by omega
    clear hT
    have hfr : ∀ w', Below (w1.alloc (.cells #[.int .u64 T, .slice a m cap] 33 (0, 0))).heap.size (w1.alloc (.cells #[.int .u64 T, .slice a m cap] 33 (0, 0))) w' → Hv w' (some ⟨w1.heap.size, 0, none⟩) 1 1 [⟨T, a, m, cap, xs⟩] := by
      intro w' hb
      refine ⟨rfl, (Vw.new2 w1 (Frs [⟨T, a, m, cap, xs⟩]) 33 1 rfl (by unfold maxLen; omega)).below hb (fun b hb => by simp at hb; simp; omega), fun f hf => ?_⟩
      simp only [List.mem_cons, List.not_mem_nil, or_false] at hf
      subst hf
      exact ⟨T0, by simp only; omega, HKEEP.out w' ((HK.out.alloc HK.out.size _).trans (hb.mono (by have := HK.out.size; simp; omega)))⟩
    have HOKF : Hid (frOK ⟨T, a, m, cap, xs⟩ = true) := by show _ = _; unfold frOK varsOK; have := HXM.out; simp; omega
    go_wp2_with fail
    refine (h3write_any none 0 0 [] (some ⟨w1.heap.size, 0, none⟩) 1 1 [⟨T, a, m, cap, xs⟩] _ (By.nil _) hfr (by omega) (by omega) (fun f hf => by simp only [List.mem_cons, List.not_mem_nil, or_false] at hf; subst hf; simp only; omega)).mono ?_
    rintro e w2 ⟨a2, n2, c2, rfl, ho2, hk2⟩
    have hok1 : frsOK [⟨T, a, m, cap, xs⟩] = true := by unfold frsOK; simp [HOKF.out]
    have he1 : frsErr [⟨T, a, m, cap, xs⟩] = 0 := by unfold frsErr; rw [hok1]; rfl
    have hr1 : frsR [] [⟨T, a, m, cap, xs⟩] = frE ⟨T, a, m, cap, xs⟩ := by unfold frsR; rw [hok1]; simp [frsE]
    rw [he1]
    rw [hr1] at ho2
    have HCUT := Lib.hid (fun i (hi : i < (frE ⟨T, a, m, cap, xs⟩).length) => cut_fr ⟨T, a, m, cap, xs⟩ T0 HOKF.out (by have := HXM.out; show xs.length ≤ 16384; omega) i hi)
    have h2 := frE_2 ⟨T, a, m, cap, xs⟩ HOKF.out
    generalize frE ⟨T, a, m, cap, xs⟩ = fs at *
    have hn2 : n2 = fs.length := ho2.1
    have h2a : 2 ≤ n2 := by omega
    have h2b : n2 ≤ 300 := by have := HXM.out; have := h2.2; simp only at this; omega
    have hc2 := ho2.by.2.le
    have hm2 := ho2.by.2.max
    unfold maxLen at hm2
    have HO2 := Lib.hid ho2
    have HN2 := Lib.hid hn2
    have HK2 := Lib.hid ((HK.out.alloc HK.out.size _).trans (hk2.mono (by have := HK.out.size; simp; omega)))
    clear ho2 hk2 hok1 he1 hr1 hfr h2 hn2
    obtain ⟨j, hj⟩ : ∃ j : Nat, p % (n2 : Int) = j := ⟨(p % (n2 : Int)).toNat, by have := Int.emod_nonneg p (show (n2 : Int) ≠ 0 by omega); omega⟩
    have hjlt : (j : Int) < (n2 : Int) := by rw [← hj]; exact Int.emod_lt_of_pos _ (by omega)
    have hjn : j < n2 := by omega
    have HHD : Hid (By w2 a2 j c2 (fs.take j)) := HO2.out.by.head j (by omega)
    have HR1 := Lib.hid (HCUT.out j (by have := HN2.out; omega))
    go_wp2_with fail
    refine (h3read_any a2 j c2 (fs.take j) w2 HHD.out (by omega)).mono ?_
    rintro e w3 ⟨a3, n3, c3, rfl, -, hk3⟩
    rw [HR1.out]
    have HK3 := Lib.hid (HK2.out.trans (hk3.mono HK2.out.size))
    clear hk3 hj hjlt
    obtain ⟨q, hq⟩ : ∃ q : Nat, n % 5 = q := ⟨(n % 5).toNat, by omega⟩
    have hq5 : q < 5 := by omega
    have HK3a := Lib.hid (HK3.out.alloc HK3.out.size (.cells #[.int .u64 0, .slice a3 n3 c3] 33 (0, 0)))
    go_wp2_with fail
    have V0 : 0 ≤ 16384 + ((q : Int) - 2) := by omega
    have V1 : 16384 + ((q : Int) - 2) ≤ 4611686018427387903 := by omega
    have hvt := vars_two T (16384 + ((q : Int) - 2)) T1 V1
    have hs3 : w.heap.size ≤ w3.heap.size := HK3.out.size
    refine (varsr_o w3.heap.size none 0 0 [] (w3.heap.size + 1) 2 2 [T, 16384 + ((q : Int) - 2)] _ (Bo.nil _ _) (Uv.two2 w3 _ _ _ _ T0 (by omega) V0 (by omega)) (by simp; omega) (fun b hb => by cases hb) (by omega) (by omega)).mono ?_
    rintro e w4 ⟨a4, n4, c4, rfl, ho4, hk4⟩
    rw [(hvt []).1]
    have hle4 : n4 ≤ 16 := by
      have h1 := ho4.1
      have h2 := varsE_two T (16384 + ((q : Int) - 2))
      have h3 := (hvt []).2
      have h4 : varsE [T, 16384 + ((q : Int) - 2)] = varE T ++ varE (16384 + ((q : Int) - 2)) := by simp [varsE]
      simp only [List.append_nil] at h3
      rw [h3, ← h4] at h1
      omega
    have HO4 := Lib.hid ho4
    have HVT := Lib.hid (fun more => (hvt more).2)
    have HK4 := Lib.hid ((HK3a.out.alloc HK3a.out.size (.cells #[.int .u64 T, .int .u64 (16384 + ((q : Int) - 2))] 31 (0, 0))).trans (hk4.mono hs3))
    have hs34 : w3.heap.size ≤ w4.heap.size := by have := hk4.size; simp at this; omega
    clear ho4 hk4 hvt hand hq
    have hG : Hid ((2 < q → (frR (varsR [] [T, 16384 + ((q : Int) - 2)])).2.2.2 = 23) ∧ (¬ 2 < q → (frR (varsR [] [T, 16384 + ((q : Int) - 2)])).2.2.2 = 20)) := by
      show _ ∧ _
      have e := HVT.out []
      simp only [List.append_nil] at e
      rw [e]
      have e2 : varE T ++ varE (16384 + ((q : Int) - 2)) = varE T ++ (varE (16384 + ((q : Int) - 2)) ++ []) := by simp
      rw [e2]
      refine ⟨fun h => ?_, fun h => ?_⟩
      · rw [long_big T _ [] T0 T1 (by omega) V1]
      · rw [long_more T _ [] T0 T1 V0 (by omega) (by simp; omega)]
    have hH : Hid ((2 < q → (frR (varsR [] [T, 16384 + ((q : Int) - 2)] ++ List.replicate (16382 + q) 0)).2.2.2 = 23) ∧ (¬ 2 < q → (frR (varsR [] [T, 16384 + ((q : Int) - 2)] ++ List.replicate (16382 + q) 0)).2.1.length = 16382 + q ∧ (frR (varsR [] [T, 16384 + ((q : Int) - 2)] ++ List.replicate (16382 + q) 0)).2.2.2 = 0)) := by
      show _ ∧ _
      rw [HVT.out]
      refine ⟨fun h => by rw [long_big T _ _ T0 T1 (by omega) V1], fun h => ?_⟩
      obtain ⟨h1, h2⟩ := long_all T (16384 + ((q : Int) - 2)) (List.replicate (16382 + q) 0) T0 T1 (by omega) (by simp; omega)
      rw [h1, h2]
      exact ⟨by simp, rfl⟩
    generalize varsR [] [T, 16384 + ((q : Int) - 2)] = ls at *
    go_wp2_with fail
    refine (h3read_any a4 n4 c4 ls w4 HO4.out.by (by omega)).mono ?_
    rintro e w5 ⟨a5, n5, c5, rfl, -, hk5⟩
    generalize (frR ls).2.2.2 = ge at *
    have HK5 := Lib.hid ((HK4.out.trans (hk5.mono HK4.out.size)).alloc (by have := HK4.out.size; have := hk5.size; omega) (.cells #[.int .u64 (frR ls).1, .slice a5 n5 c5] 33 (0, 0)))
    have hk5a := hk5.alloc hk5.size (.cells #[.int .u64 (frR ls).1, .slice a5 n5 c5] 33 (0, 0))
    have HO5 := Lib.hid (HO4.out.keep (Below.keeps hk5a) (fun b hb h => by have := (HO4.out.ge b hb).2; omega))
    have hs35 : w3.heap.size ≤ (w5.alloc (.cells #[.int .u64 (frR ls).1, .slice a5 n5 c5] 33 (0, 0))).heap.size := by have := hk5a.size; omega
    clear hk5 hk5a
    go_wp2_with (at_builtin; refine halt ?_)
    refine Halted.go (wpList_app0 _ rfl _ _ rfl w3.heap.size a4 n4 c4 ls rfl HO5.out.bd (16382 + q) (by omega) (congrArg (Value.int .i64) (by omega : 16384 + ((q : Int) - 2) = ((16382 + q : Nat) : Int))) (by omega) hs35 ?_)
    intro a6 c6 w6 ho6 hk6 hn6
    have HO6 := Lib.hid ho6
    have HK6 := Lib.hid (Keeps.mine_below HK5.out hk6 HK5.out.size hs3)
    clear ho6 hk6 hn6
    go_wp2_with fail
    refine (h3read_any a6 _ c6 _ w6 HO6.out.by (by omega)).mono ?_
    rintro e w7 ⟨a7, n7, c7, rfl, ho7, hk7⟩
    have HK7 := Lib.hid (HK6.out.trans (hk7.mono HK6.out.size))
    have hn7 := ho7.1
    clear ho7 hk7
    by_cases hd : 2 < q
    · have h1 := hH.out.1 hd
      have hdI : 0 < (q : Int) - 2 := by omega
      obtain rfl := hG.out.1 hd
      rw [h1]
      clear h1 hn7
      have hd2 : decide ((q : Int) - 2 ≤ 0) = false := by simp; omega
      go_wp2_with fail
      go_returns
      exact ⟨rfl, HK7.out.alloc HK7.out.size _⟩
    · obtain ⟨h1, h2⟩ := hH.out.2 hd
      have hdI : (q : Int) - 2 ≤ 0 := by omega
      obtain rfl := hG.out.2 hd
      rw [h2]
      have hn8 : n7 = 16382 + q := by rw [hn7, h1]
      have he : ((n7 : Int) == 16384 + ((q : Int) - 2)) = true := by simp; omega
      clear h1 h2 hn7 hn8
      go_wp2_with fail
      go_returns
      exact ⟨rfl, HK7.out.alloc HK7.out.size _⟩

end Go.Proofs.Ytblgahhfhgdpiaa
