/- ReadSettings of the package bifoldref26. -/
import Derived.Test.YtblgahhfhgdpiaaH3F
namespace Go.Proofs.Ytblgahhfhgdpiaa
open Go.RowKit Go.Deep Go.Maps Go.ChangeShapes Go.WideShapes

set_option maxHeartbeats 3200000 in
theorem rsetr_any (t : Int) (a : Option Addr) (n cap : Nat) (xs : List UInt8) (w : World) (hv : Stay w.heap.size w a n cap xs) (hbig : n ≤ 1000000) :
    Calls Try.prog 21 #[.agg #[.int .u64 t, .slice a n cap]] w fun e w' => ∃ a' n' cap', e = .returned (.tuple #[.slice a' n' cap', .int .i64 (rsR t xs).2]) ∧ So w.heap.size w' a' n' cap' (rsR t xs).1 ∧ Below w.heap.size w w' := by
  have hv0 := hv w (Below.refl _ _)
  have HN := Lib.hid hv0.1
  have HV := Lib.hid hv
  clear hv hv0
  by_cases h4 : t = 4
  · subst h4
    have HR : Hid (rsR 4 xs = rsT (xs.length + 1) xs []) := by show _ = _; unfold rsR; rw [if_pos rfl]
    go_enter Try.func21, Try.ntmps21
    go_wp2_with fail
    have hbel : Below w.heap.size w (w.alloc (.cells #[.int .u64 4, .slice a n cap] 33 (0, 0))) := (Below.refl _ _).alloc (Nat.le_refl _) _
    have hsize : (w.alloc (.cells #[.int .u64 4, .slice a n cap] 33 (0, 0))).heap.size = w.heap.size + 1 := by simp
    generalize w.alloc (.cells #[.int .u64 4, .slice a n cap] 33 (0, 0)) = W0 at *
    have HBEL := Lib.hid hbel
    have HSZ := Lib.hid hsize
    clear hbel hsize
    go_loopg [4, 5] n (fun k vo vb wr => ∃ (f : Nat) (out : List (Int × Int)) (ao : Option Addr) (co : Nat) (ab : Option Addr) (cb : Nat) (ys : List UInt8), vo = .slice ao out.length co ∧ vb = .slice ab k cb ∧ k ≤ n ∧ k = ys.length ∧ ys.length < f ∧ rsT f ys out = rsT (xs.length + 1) xs [] ∧ out.length ≤ 32 ∧ Stay w.heap.size w ab k cb ys ∧ So (w.heap.size + 1) wr ao out.length co out ∧ Below w.heap.size w wr ∧ w.heap.size + 1 ≤ wr.heap.size)
    case atStart => exact ⟨xs.length + 1, [], none, 0, a, cap, xs, rfl, rfl, Nat.le_refl _, HN.out, Nat.lt_succ_self _, rfl, by simp, HV.out, So.nil _ _, HBEL.out, by rw [HSZ.out]; omega⟩
    case round =>
      obtain ⟨m5, rfl⟩ : ∃ m5 : Nat, m5 = gk := ⟨_, rfl⟩
      obtain ⟨f, out, ao, co, ab, cb, ys, rfl, rfl, hkn, hky, hf, hrs, h32, hst, hso, hk, hsz⟩ := hrel
      have HF := Lib.hid hf
      have HRS := Lib.hid hrs
      have HST := Lib.hid hst
      have HSO := Lib.hid hso
      have HK := Lib.hid hk
      have HKY := Lib.hid hky
      clear hf hrs hst hso hk hky
      by_cases h0 : m5 = 0
      · subst h0
        have HE : Hid (rsR 4 xs = (out, 0)) := by show _ = _; rw [HR.out, ← HRS.out, rsT_0 HKY.out.symm]
        go_wp2_with fail
        go_returns
        rw [HE.out]
        exact ⟨ao, out.length, co, rfl, HSO.out.mono (by omega), HK.out⟩
      · have hpos : 0 < m5 := by omega
        have hyp : 0 < ys.length := by have := HKY.out; omega
        have hby := HST.out wr HK.out
        have hcb := hby.2.le
        have hmb := hby.2.max
        unfold maxLen at hmb
        have HBY := Lib.hid hby
        clear hby h0
        rcases rv_facts ys with ⟨f1, f2, f3⟩ | ⟨k, k1, k8, kl, g1, g2, g3, g4⟩
        · have F1 := Lib.hid f1
          have F2 := Lib.hid f2
          have F3 := Lib.hid f3
          have HE : Hid (rsR 4 xs = ([], 1)) := by show _ = _; rw [HR.out, ← HRS.out, rsT_1 hyp HF.out f1]
          clear f1 f2 f3
          go_wp2_with fail
          refine (readvarr_any ab m5 cb ys wr HBY.out).mono ?_
          rintro e w' ⟨rfl, rfl⟩
          rw [F1.out, F2.out, F3.out]
          go_wp2_with fail
          go_returns
          rw [HE.out]
          exact ⟨none, 0, 0, rfl, So.nil _ _, HK.out⟩
        · have G1 := Lib.hid g1
          have G2 := Lib.hid g2
          clear g1 g2
          have ho := offA_eq ab cb k
          have hkg : k ≤ m5 := by have := HKY.out; omega
          go_wp2_with fail
          refine (readvarr_any ab m5 cb ys wr HBY.out).mono ?_
          rintro e w' ⟨rfl, rfl⟩
          rw [G1.out, G2.out]
          have HV1 := Lib.hid (rfl : rvV ys = rvV ys)
          generalize hv1 : rvV ys = v at *
          have HB2 := Lib.hid (HBY.out.from k hkg)
          generalize hys : ys.drop k = zs at *
          have HYS := Lib.hid hys
          have HVV := Lib.hid hv1
          have HZL : Hid (zs.length = m5 - k) := by show _ = _; rw [← hys, List.length_drop, ← HKY.out]
          clear hys hv1 HV1
          go_wp2_with fail
          refine (readvarr_any _ _ _ zs _ HB2.out).mono ?_
          rintro e w' ⟨rfl, rfl⟩
          rcases rv_facts zs with ⟨f1, f2, f3⟩ | ⟨j, j1, j8, jl, f1, f2, f3, f4⟩
          · have F1 := Lib.hid f1
            have F2 := Lib.hid f2
            have HE : Hid (rsR 4 xs = ([], 1)) := by show _ = _; rw [HR.out, ← HRS.out, rsT_2 hyp HF.out G2.out G1.out HYS.out f1]
            clear f1 f2
            rw [F1.out, F2.out, f3]
            go_wp2_with fail
            go_returns
            rw [HE.out]
            exact ⟨none, 0, 0, rfl, So.nil _ _, HK.out⟩
          · have F1 := Lib.hid f1
            have F2 := Lib.hid f2
            clear f1 f2
            rw [F1.out, F2.out]
            generalize hv2 : rvV zs = v2 at *
            have HV2 := Lib.hid hv2
            clear hv2
            have hU : inU v := ⟨by omega, by omega⟩
            have HU := Lib.hid hU
            clear hU
            have hkj : k + j ≤ m5 := by have := HZL.out; omega
            have ho2 := offA_eq ab cb (k + j)
            have ho3 : (if cb = ((k : Int) + (j : Int)).toNat then ab else ab.map (fun x => x.add ((k : Int) + (j : Int)).toNat)) = offA ab cb (k + j) := by rw [show ((k : Int) + (j : Int)).toNat = k + j by omega]; rfl
            clear ho
            have HFIN : Hid (rsBad out v = true → rsR 4 xs = ([], 4)) := fun hb => by rw [HR.out, ← HRS.out, rsT_3 hyp HF.out G2.out G1.out HYS.out F2.out (by rw [HVV.out]; exact hb)]
            by_cases hbad : v = 0 ∨ (2 ≤ v ∧ v ≤ 5) ∨ out.length = 32
            · have HE : Hid (rsR 4 xs = ([], 4)) := HFIN.out (by unfold rsBad; simp only [decide_eq_true_eq]; exact .inr hbad)
              have hcase : (v = 0) ∨ (2 ≤ v ∧ v ≤ 5) ∨ (5 < v ∧ 32 ≤ out.length) ∨ (0 < v ∧ v < 2 ∧ 32 ≤ out.length) := by omega
              clear hbad
              rcases hcase with hz | ⟨hz1, hz2⟩ | ⟨hz, hl⟩ | ⟨hz, hz1, hl⟩
              · have hb1 : (v == 0) = true := by simp [hz]
                clear hz
                go_wp2_with fail
                go_returns
                rw [HE.out]
                exact ⟨none, 0, 0, rfl, So.nil _ _, HK.out⟩
              · have hb1 : (v == 0) = false := by simp; omega
                go_wp2_with fail
                go_returns
                rw [HE.out]
                exact ⟨none, 0, 0, rfl, So.nil _ _, HK.out⟩
              · have hb1 : (v == 0) = false := by simp; omega
                go_wp2_with fail
                go_returns
                rw [HE.out]
                exact ⟨none, 0, 0, rfl, So.nil _ _, HK.out⟩
              · have hb1 : (v == 0) = false := by simp; omega
                go_wp2_with fail
                go_returns
                rw [HE.out]
                exact ⟨none, 0, 0, rfl, So.nil _ _, HK.out⟩
            · have hb1 : (v == 0) = false := by simp; omega
              have hout : out.length < 32 := by omega
              have hv5 : (0 < v ∧ v < 2) ∨ (2 ≤ v ∧ 5 < v) := by omega
              have HNB := Lib.hid hbad
              clear hbad
              obtain ⟨i0, hi, hz0, hz1, hz2⟩ := info_parts infoS
              have HI := Lib.hid hi
              have HZ0 := Lib.hid hz0
              have HZ1 := Lib.hid hz1
              have HZ2 := Lib.hid hz2
              clear hi hz0 hz1 hz2
              rcases hv5 with ⟨v5, v6⟩ | ⟨v5, v6⟩
              all_goals (
                go_wp2_with fail
                go_loopg [11] out.length (fun g vi wx => ∃ (i : Nat), g + i = out.length ∧ vi = .int .i64 i ∧ (∀ x ∈ out.take i, x.1 ≠ v) ∧ wr = wx)
                case atStart => exact ⟨0, by omega, rfl, by simp, rfl⟩
                case round =>
                  obtain ⟨i, hii, rfl, hall, rfl⟩ := hrel
                  have HII := Lib.hid hii
                  have HALL := Lib.hid hall
                  clear hii hall
                  by_cases hio : i < out.length
                  · obtain ⟨bb, oo, hao, hbb, hcell⟩ := HSO.out.sv.get (by omega)
                    have p1 := (hcell i hio).1
                    have HSO' := HSO
                    subst hao
                    clear hcell
                    by_cases heq : out[i].1 = v
                    · have HE : Hid (rsR 4 xs = ([], 4)) := HFIN.out (by
                        unfold rsBad
                        simp only [decide_eq_true_eq]
                        refine .inl ?_
                        unfold idsN
                        rw [if_pos (List.mem_map.2 ⟨out[i], List.getElem_mem hio, heq⟩)]
                        decide)
                      go_wp2_with fail
                      go_returns
                      rw [HE.out]
                      exact ⟨none, 0, 0, rfl, So.nil _ _, HK.out⟩
                    · go_wp2_with fail
                      obtain ⟨g', rfl⟩ : ∃ g', gk = g' + 1 := ⟨gk - 1, by have := HII.out; omega⟩
                      go_roundg g'
                      case measure => omega
                      case rel =>
                        refine ⟨i + 1, by have := HII.out; omega, by go_num, fun x hx => ?_, rfl⟩
                        rw [List.take_succ_eq_append_getElem hio, List.mem_append] at hx
                        rcases hx with hx | hx
                        · exact HALL.out x hx
                        · simp at hx
                          subst hx
                          exact heq
                  · have hil : out.length ≤ i := by omega
                    have HNI : Hid (idsN out v = 0) := by
                      show _ = _
                      unfold idsN
                      rw [if_neg (fun h => ?_)]
                      obtain ⟨x, hx, e⟩ := List.mem_map.1 h
                      exact HALL.out x (by rwa [List.take_of_length_le hil]) e
                    have hb4 : rsBad out v = false := by
                      unfold rsBad
                      simp only [decide_eq_false_iff_not]
                      have h1 := HNI.out
                      have h2 := HNB.out
                      omega
                    have HRS2 : Hid (rsT (f - 1) (ys.drop (k + j)) (out ++ [(v, v2)]) = rsT (xs.length + 1) xs []) := by
                      show _ = _
                      rw [← HRS.out, rsT_4 hyp HF.out G2.out G1.out HYS.out F2.out F1.out (by rw [HVV.out]; exact hb4), HVV.out, HV2.out]
                    clear hb4
                    have hsz1 : w.heap.size + 1 ≤ (wr.alloc (.cells #[.int .u64 v, .int .u64 v2] 57 (0, 0))).heap.size := by simp; omega
                    go_wp2_with (at_builtin; refine halt ?_)
                    refine Halted.go (wpList_app _ rfl _ _ 45 45 rfl (w.heap.size + 1) 57 i0 _ 2 16 Try.underlying45 HI.out HZ0.out HZ1.out HZ2.out rfl ao out.length co (Ss out) rfl (Dst.alloc (.inl HSO.out.2.1) _) (.slice (some ⟨wr.heap.size, 0, none⟩) 1 1) rfl 1 (Ss [(v, v2)]) (src_set wr v v2) (by unfold maxLen; omega) (by omega) hsz1 ?_)
                    intro a3 c3 w3 hd3 hk3 hn3 hown3 _
                    have hso3 : So (w.heap.size + 1) w3 a3 (out.length + 1) c3 (out ++ [(v, v2)]) := by
                      refine ⟨by simp, by have h := hown3 (by omega); rwa [Ss_append] at h, fun p hp => ?_⟩
                      rcases List.mem_append.1 hp with hp | hp
                      · exact HSO.out.2.2 p hp
                      · simp at hp
                        subst hp
                        exact ⟨HU.out, by constructor <;> omega⟩
                    have HSO3 := Lib.hid hso3
                    have HK3 := Lib.hid (Keeps.mine_below (HK.out.alloc (by omega) (.cells #[.int .u64 v, .int .u64 v2] 57 (0, 0))) hk3 (by simp; omega) (by omega))
                    have HS3 : Hid (w.heap.size + 1 ≤ w3.heap.size) := by show _ ≤ _; have := hk3.size; simp at this; omega
                    clear hd3 hk3 hn3 hown3 hso3
                    go_wp2_with fail
                    go_roundg (m5 - (k + j))
                    case measure => omega
                    case rel =>
                      have hyl : (ys.drop (k + j)).length = m5 - (k + j) := by rw [List.length_drop, ← HKY.out]
                      refine ⟨f - 1, out ++ [(v, v2)], a3, c3, offA ab cb (k + j), cb - (k + j), ys.drop (k + j), by simp, rfl, by omega, hyl.symm, by have := HF.out; have := HKY.out; omega, HRS2.out, by simp; omega, HST.out.from (k + j) hkj, by simpa using HSO3.out, HK3.out, HS3.out⟩)
  · have hne : (t != 4) = true := by simp [h4]
    have HR : Hid (rsR t xs = ([], 9)) := by show _ = _; unfold rsR; rw [if_neg h4]
    go_enter Try.func21, Try.ntmps21
    go_wp2_with fail
    go_returns
    rw [HR.out]
    exact ⟨none, 0, 0, rfl, So.nil _ _, (Below.refl _ _).alloc (Nat.le_refl _) _⟩

end Go.Proofs.Ytblgahhfhgdpiaa
