/- The walk of ParamLimits. -/
import Derived.Test.YtabdoikfcaiobaaParR
import Derived.Deep.DeepCutAuto
import Derived.Outline
namespace Go.Proofs.Ytabdoikfcaiobaa
open Go.RowKit Go.Deep Go.Maps

set_option maxRecDepth 100000 in
set_option maxHeartbeats 3200000 in
theorem walkParamLimits (w : World) (n : Int) (hn : (Lit.int .u8 n).wf = true) (tw : Bool) (id : Int) (hid : (Lit.int .u8 id).wf = true) (less : Int) (hl : (Lit.int .i8 less).wf = true) :
    Calls Try.prog 5 #[.int .u8 n, .bool tw, .int .u8 id, .int .i8 less] w fun e w' => e = .returned (.bool true) ∧ Below w.heap.size w w' := by
  obtain ⟨n0, n1⟩ := wf_u8_iff hn
  obtain ⟨i0, i1⟩ := wf_u8_iff hid
  clear hn hid
  obtain ⟨q, hq, hq5⟩ : ∃ q : Nat, n % 5 = q ∧ q < 5 := ⟨(n % 5).toNat, by omega, by omega⟩
  go_enter Try.func5, Try.ntmps5
  go_wp2_with fail
  refine (known_any w).mono ?_
  rintro e w1 ⟨rfl, hk1⟩
  have HK1 := Lib.hid hk1
  clear hk1
  go_wp2_with fail
  have HQ := Lib.hid hq
  clear hq
  go_loopg [10, 11] (30 + q) (fun g vo vi wr => ∃ (i : Nat) (ao : Option Addr) (co : Nat), g + i = 30 + q ∧ vo = .slice ao i co ∧ vi = .int .i64 i ∧ Po w1.heap.size wr ao co (lim i) ∧ Below w.heap.size w wr ∧ w1.heap.size ≤ wr.heap.size)
  case atStart => exact ⟨0, none, 0, by omega, rfl, rfl, Po.nil _ _, HK1.out, Nat.le_refl _⟩
  case round =>
    obtain ⟨i, ao, co, hi, rfl, rfl, hpo, hk, hsz⟩ := hrel
    have HI := Lib.hid hi
    have HPO := Lib.hid hpo
    have HK := Lib.hid hk
    clear hi hpo hk
    by_cases hik : i < 30 + q
    · have hiz : (i : Int) < 30 + (q : Int) := by omega
      obtain ⟨i0', hi0', hz0, hz1, hz2⟩ := info_parts infoP
      have HIP := Lib.hid hi0'
      have HZ0 := Lib.hid hz0
      have HZ1 := Lib.hid hz1
      have HZ2 := Lib.hid hz2
      clear hi0' hz0 hz1 hz2
      go_wp2_with (at_builtin; refine halt ?_)
      have hown : (wr.alloc (.cells #[.int .u64 (100 + (i : Int)), .slice none 0 0] 42 (0, 0))).ownsRow w1.heap.size 42 2 (.slice ao i co) i (Frs (lim i)) := by
        have := (HPO.out.1.alloc (.cells #[.int .u64 (100 + (i : Int)), .slice none 0 0] 42 (0, 0)))
        rwa [lim_length] at this
      refine Halted.go (wpList_app _ rfl _ _ 22 22 rfl w1.heap.size 42 i0' _ 2 32 Try.underlying22 HIP.out HZ0.out HZ1.out HZ2.out rfl ao i co (Frs (lim i)) rfl (.inl hown) (.slice (some ⟨wr.heap.size, 0, none⟩) 1 1) rfl 1 [.int .u64 (100 + (i : Int)), .slice none 0 0] (src_par wr (100 + (i : Int)) _ rfl) (by unfold maxLen; omega) (by omega) (by simp; omega) ?_)
      intro a5 c5 w5 _ hk5 hn5 hown5 _
      have hpoA : Po w1.heap.size (wr.alloc (.cells #[.int .u64 (100 + (i : Int)), .slice none 0 0] 42 (0, 0))) ao co (lim i) := HPO.out.below ((Below.refl wr.heap.size wr).alloc (Nat.le_refl _) (.cells #[.int .u64 (100 + (i : Int)), .slice none 0 0] 42 (0, 0)))
      have HPO5 : Hid (Po w1.heap.size w5 a5 c5 (lim (i + 1))) := Lib.hid (by
        rw [lim_succ]
        exact Po.snoc (f := limF i) hpoA hk5 hn5 (by rw [lim_length]; exact hown5 (by omega)) ⟨by show (0 : Int) ≤ 100 + (i : Int); omega, by show 100 + (i : Int) ≤ 18446744073709551615; omega⟩ (By.nil _) (fun b hb => by cases hb))
      have HK5 := Lib.hid (Keeps.mine_below (HK.out.alloc HK.out.size (.cells #[.int .u64 (100 + (i : Int)), .slice none 0 0] 42 (0, 0))) hk5 (by have := HK.out.size; simp; omega) HK1.out.size)
      have hsz5 : w1.heap.size ≤ w5.heap.size := by have := hk5.size; simp at this; omega
      clear hk5 hn5 hown5 hpoA hown
      go_wp2_with fail
      obtain ⟨g', rfl⟩ : ∃ g', gk = g' + 1 := ⟨gk - 1, by have := HI.out; omega⟩
      go_roundg g'
      case measure => omega
      case rel => exact ⟨i + 1, a5, c5, by have := HI.out; omega, rfl, by go_num, HPO5.out, HK5.out, hsz5⟩
    · have hik2 : i = 30 + q := by have := HI.out; omega
      subst hik2
      clear hik
      obtain ⟨g, rfl, hgb, hgs, hcell, hfree⟩ := HPO.out.row (by rw [lim_length]; omega)
      go_upto_if 38 with fail
      go_cut [] (fun wx => ∃ l : List Fr, l.length = 30 + q ∧ (∀ f ∈ l, f.n ≤ 1000000) ∧ ((paErr l == 0) = (decide (((30 : Nat) + q : Int) ≤ 32) && !tw)) ∧ Po w1.heap.size wx (some ⟨g, 0, none⟩) co l ∧ Below w.heap.size w wx)
      case first =>
        cases tw with
        | false =>
          go_wp2_with fail
          go_meet
          exact ⟨lim (30 + q), lim_length _, lim_n _, lim_no q (by omega), HPO.out, HK.out⟩
        | true =>
          obtain ⟨j, hj⟩ : ∃ j : Nat, n % (30 + (q : Int) - 1) = j := ⟨(n % (30 + (q : Int) - 1)).toNat, by have := Int.emod_nonneg n (show (30 + (q : Int) - 1) ≠ 0 by omega); omega⟩
          have hjI : (j : Int) < 30 + (q : Int) - 1 := by rw [← hj]; exact Int.emod_lt_of_pos _ (by omega)
          have hj0 : (0 : Int) ≤ (j : Int) := by omega
          have hjn : j < 30 + q - 1 := by omega
          have e1 : wr.cell? ⟨g, j * 2, none⟩ = some (.int .u64 (100 + (j : Int))) := by
            rw [hcell j (by rw [lim_length]; omega), lim_get]; rfl
          have e2 : wr.cell? ⟨g, (29 + q) * 2, none⟩ = some (.int .u64 (100 + ((29 + q : Nat) : Int))) := by
            rw [hcell (29 + q) (by rw [lim_length]; omega), lim_get]; rfl
          have e3 : wr.frozen? ⟨g, (29 + q) * 2, none⟩ = false := hfree _
          clear hcell hfree
          go_wp2_with fail
          go_meet
          exact ⟨limT (30 + q) j, by simp [limT, lim_length], limT_n _ _, limT_no q j hjn, limT_po2 HPO.out j hjn, HK.out.setCell (p := ⟨g, (29 + q) * 2, none⟩) (by show w.heap.size ≤ g; have := HK1.out.size; omega) _⟩
      case rest =>
        obtain ⟨l, hlen, hln, herr, hpo, hk⟩ := hcut
        have HLN := Lib.hid hln
        have HERR := Lib.hid herr
        have HPO2 := Lib.hid hpo
        have HK2 := Lib.hid hk
        have HLEN := Lib.hid hlen
        clear hln herr hpo hk hcell hfree hlen
        obtain ⟨i, hi, hi6⟩ : ∃ i : Nat, id % 6 = i ∧ i < 6 := ⟨(id % 6).toNat, by omega, by omega⟩
        go_wp2_with fail
        refine (qwrite_any _ (30 + q) co l wc (fun w' h => by have := (HPO2.out.below h).hv; rwa [HLEN.out] at this) HLN.out).mono ?_
        rintro e w2 ⟨a2, n2, c2, rfl, ho2, hk2⟩
        have HK3 := Lib.hid (HK2.out.trans (hk2.mono HK2.out.size))
        generalize paErr l = pe at *
        clear ho2 hk2
        have hp1 : (pe == 0) = (decide (30 + (q : Int) ≤ 32) && !tw) := HERR.out
        go_upto_region 12 with fail
        go_cut [66] (fun v66 wx => v66 = .bool false ∧ Below w.heap.size w wx)
        case first =>
          go_wp2_with fail
          all_goals (go_meet; exact ⟨by simp, HK3.out⟩)
        case rest =>
          obtain ⟨rfl, hk4⟩ := hcut
          have HK4 := Lib.hid hk4
          clear hk4 hp1 hgb hgs
          go_upto_region 16 with fail
          have HT1 := Lib.hid ((Blk.new wc #[.int .u64 3, .int .u64 8, .int .u64 9, .int .u64 10, .int .u64 11, .int .u64 14] 40).alloc (.cells #[.int .u64 1200, .int .u64 1152921504606846976, .int .u64 1152921504606846976, .int .u64 20, .int .u64 16383, .int .u64 2] 40 (0, 0)))
          have HT2 := Lib.hid (Blk.new (wc.alloc (.cells #[.int .u64 3, .int .u64 8, .int .u64 9, .int .u64 10, .int .u64 11, .int .u64 14] 40 (0, 0))) #[.int .u64 1200, .int .u64 1152921504606846976, .int .u64 1152921504606846976, .int .u64 20, .int .u64 16383, .int .u64 2] 40)
          have HK5 := Lib.hid ((HK4.out.alloc HK4.out.size (.cells #[.int .u64 3, .int .u64 8, .int .u64 9, .int .u64 10, .int .u64 11, .int .u64 14] 40 (0, 0))).alloc (by have := HK4.out.size; simp; omega) (.cells #[.int .u64 1200, .int .u64 1152921504606846976, .int .u64 1152921504606846976, .int .u64 20, .int .u64 16383, .int .u64 2] 40 (0, 0)))
          have HS5 : Hid (((wc.alloc (.cells #[.int .u64 3, .int .u64 8, .int .u64 9, .int .u64 10, .int .u64 11, .int .u64 14] 40 (0, 0))).alloc (.cells #[.int .u64 1200, .int .u64 1152921504606846976, .int .u64 1152921504606846976, .int .u64 20, .int .u64 16383, .int .u64 2] 40 (0, 0))).heap.size = wc.heap.size + 2) := Lib.hid (by simp)
          generalize (wc.alloc (.cells #[.int .u64 3, .int .u64 8, .int .u64 9, .int .u64 10, .int .u64 11, .int .u64 14] 40 (0, 0))).alloc (.cells #[.int .u64 1200, .int .u64 1152921504606846976, .int .u64 1152921504606846976, .int .u64 20, .int .u64 16383, .int .u64 2] 40 (0, 0)) = w5 at *
          have t1 : w5.cell? ⟨wc.heap.size, i, none⟩ = some (.int .u64 (idE i)) := by rw [HT1.out.cell i]; exact tabI hi6
          have t2 : w5.cell? ⟨wc.heap.size + 1, i, none⟩ = some (.int .u64 (endE i)) := by
            have h := HT2.out.cell i
            rw [World.size_alloc] at h
            rw [h]; exact tabE hi6
          obtain ⟨r, hr, hr0, hr1⟩ := tmod2 less
          have hb := endE_bd hi6
          have HI6 := Lib.hid hi
          go_upto_region 17 with fail
          go_cut [16, 17] (fun v16 v17 wx => v16 = .int .i64 i ∧ v17 = .int .u64 (endE i + r) ∧ w5 = wx)
          case first =>
            rcases (show r = -1 ∨ r = 0 ∨ r = 1 by omega) with rfl | rfl | rfl
            · have e : IntKind.u64.wrap (endE i + IntKind.u64.wrap (-1)) = endE i + -1 := wrap_m1 hb.1 hb.2
              have HE := Lib.hid e
              clear e
              go_wp2_with fail
              go_meet
              rw [HE.out]
              exact ⟨by rw [HI6.out], rfl, rfl⟩
            · go_wp2_with fail
              go_meet
              exact ⟨by rw [HI6.out], by go_num, rfl⟩
            · go_wp2_with fail
              go_meet
              exact ⟨by rw [HI6.out], by go_num, rfl⟩
          case rest =>
            obtain ⟨rfl, rfl, rfl⟩ := hcut
            clear hi
            have HR := Lib.hid hr
            have HLAW := Lib.hid (end_law hi6 r ⟨hr0, hr1⟩)
            have HBI := Lib.hid (idE_bd hi6)
            have HEI := Lib.hid (idE_end hi6)
            obtain ⟨V, hV⟩ : ∃ V, endE i + r = V := ⟨_, rfl⟩
            obtain ⟨T, hT⟩ : ∃ T, idE i = T := ⟨_, rfl⟩
            have v0 : 0 ≤ V := by omega
            have v1 : V ≤ 4611686018427387903 := by omega
            rw [hV, hT] at HLAW
            rw [hT] at HBI HEI t1
            rw [hV]
            clear hV hT hb t2 HT1 HT2 hr
            have ib0 : (0 : Int) ≤ (i : Int) := by omega
            have ib1 : (i : Int) < 6 := by omega
            go_wp2_with fail
            go_region_held3 (fun w' => w'.cell? ⟨wc.heap.size, i, none⟩ = some (.int .u64 T)) (go_keep) ((go_at_call 13; refine (num_any _ _ v0 v1).mono ?_; rintro e w6 ⟨a6, n6, c6, rfl, hb6, hl6, hk6⟩; have HB6 := Lib.hid hb6; have HL6 := Lib.hid hl6; have HK6 := Lib.hid hk6; have t6 : w6.cell? ⟨wc.heap.size, i, none⟩ = some (.int .u64 T) := (hk6.cell (p := ⟨wc.heap.size, i, none⟩) (by show wc.heap.size < w5.heap.size; rw [HS5.out]; omega)).trans t1; clear hb6 hl6 hk6; dsimp only))
            have HV := Lib.hid (Hv.new w6 [⟨T, a6, n6, c6, varE V⟩] 42 #[.int .u64 T, .slice a6 n6 c6] rfl (by simp)
              (fun f hf => by
                simp only [List.mem_cons, List.not_mem_nil, or_false] at hf
                subst hf
                exact ⟨HBI.out.1, by show T ≤ _; have := HBI.out.2; omega, HB6.out, HL6.out⟩))
            have HC := Lib.hid (HLAW.out a6 n6 c6)
            have hs6 : w.heap.size ≤ w6.heap.size := by have h1 := HK6.out.size; have h2 := HK5.out.size; simp at h1; omega
            have HK7 := Lib.hid ((HK5.out.drew.trans (HK6.out.mono (by have := HK5.out.size; simpa using this))).alloc hs6 (.cells #[.int .u64 T, .slice a6 n6 c6] 42 (0, 0)))
            clear t6 t1
            clear HLAW
            rename_i hheld
            clear hheld
            generalize hw7 : w6.alloc (.cells #[.int .u64 T, .slice a6 n6 c6] 42 (0, 0)) = w7 at *
            clear hw7
            have hr := HR.out
            rcases (show i = 0 ∨ i = 5 ∨ (i ≠ 0 ∧ i ≠ 5) by omega) with rfl | rfl | ⟨hi0, hi5⟩
            · clear ib0 ib1
              have HC2 : Hid ((checkI [⟨T, a6, n6, c6, varE V⟩] true == 0) = decide (0 ≤ r)) := Lib.hid (by rw [HC.out]; unfold okE; rw [if_pos (.inl rfl)])
              obtain ⟨ck, hck⟩ : ∃ ck, checkI [⟨T, a6, n6, c6, varE V⟩] true = ck := ⟨_, rfl⟩
              have HCK := Lib.hid hck
              clear hck
              go_wp2_with fail
              refine (check_any _ 1 1 [⟨T, a6, n6, c6, varE V⟩] true w7 HV.out (by omega)).mono ?_
              rintro e w8 ⟨rfl, hk8⟩
              have HK8 := Lib.hid (HK7.out.trans (hk8.mono HK7.out.size))
              have HV8 : Hid (∀ w', Below w8.heap.size w8 w' → Hv w' (some ⟨w6.heap.size, 0, none⟩) 1 1 [⟨T, a6, n6, c6, varE V⟩]) := Lib.hid (fun w' h => HV.out w' (hk8.trans (h.mono hk8.size)))
              have hc2 := HC2.out
              rw [HCK.out] at hc2 ⊢
              clear hk8
              go_wp2_with fail
              refine (rcheck_one _ 1 ⟨T, a6, n6, c6, varE V⟩ HEI.out w8 HV8.out).mono ?_
              rintro e w9 ⟨rfl, hk9⟩
              have HK9 := Lib.hid (HK8.out.trans (hk9.mono HK8.out.size))
              have HV9 : Hid (∀ w', Below w9.heap.size w9 w' → Hv w' (some ⟨w6.heap.size, 0, none⟩) 1 1 [⟨T, a6, n6, c6, varE V⟩]) := Lib.hid (fun w' h => HV8.out w' (hk9.trans (h.mono hk9.size)))
              rw [HCK.out]
              clear hk9
              go_wp2_with fail
              refine (check_any _ 1 1 [⟨T, a6, n6, c6, varE V⟩] true w9 HV9.out (by omega)).mono ?_
              rintro e w10 ⟨rfl, hk10⟩
              have HK10 := Lib.hid (HK9.out.trans (hk10.mono HK9.out.size))
              rw [HCK.out]
              clear hk10
              go_wp2_with fail
              go_returns
              exact ⟨by simp, HK10.out⟩
            · clear ib0 ib1
              have HC2 : Hid ((checkI [⟨T, a6, n6, c6, varE V⟩] true == 0) = decide (0 ≤ r)) := Lib.hid (by rw [HC.out]; unfold okE; rw [if_pos (.inr rfl)])
              obtain ⟨ck, hck⟩ : ∃ ck, checkI [⟨T, a6, n6, c6, varE V⟩] true = ck := ⟨_, rfl⟩
              have HCK := Lib.hid hck
              clear hck
              go_wp2_with fail
              refine (check_any _ 1 1 [⟨T, a6, n6, c6, varE V⟩] true w7 HV.out (by omega)).mono ?_
              rintro e w8 ⟨rfl, hk8⟩
              have HK8 := Lib.hid (HK7.out.trans (hk8.mono HK7.out.size))
              have HV8 : Hid (∀ w', Below w8.heap.size w8 w' → Hv w' (some ⟨w6.heap.size, 0, none⟩) 1 1 [⟨T, a6, n6, c6, varE V⟩]) := Lib.hid (fun w' h => HV.out w' (hk8.trans (h.mono hk8.size)))
              have hc2 := HC2.out
              rw [HCK.out] at hc2 ⊢
              clear hk8
              go_wp2_with fail
              refine (rcheck_one _ 1 ⟨T, a6, n6, c6, varE V⟩ HEI.out w8 HV8.out).mono ?_
              rintro e w9 ⟨rfl, hk9⟩
              have HK9 := Lib.hid (HK8.out.trans (hk9.mono HK8.out.size))
              have HV9 : Hid (∀ w', Below w9.heap.size w9 w' → Hv w' (some ⟨w6.heap.size, 0, none⟩) 1 1 [⟨T, a6, n6, c6, varE V⟩]) := Lib.hid (fun w' h => HV8.out w' (hk9.trans (h.mono hk9.size)))
              rw [HCK.out]
              clear hk9
              go_wp2_with fail
              refine (check_any _ 1 1 [⟨T, a6, n6, c6, varE V⟩] true w9 HV9.out (by omega)).mono ?_
              rintro e w10 ⟨rfl, hk10⟩
              have HK10 := Lib.hid (HK9.out.trans (hk10.mono HK9.out.size))
              rw [HCK.out]
              clear hk10
              go_wp2_with fail
              go_returns
              exact ⟨by simp, HK10.out⟩
            · have k0 : ((i : Int) == 0) = false := by simp; omega
              have k5 : ((i : Int) == 5) = false := by simp; omega
              have HC2 : Hid ((checkI [⟨T, a6, n6, c6, varE V⟩] true == 0) = decide (r ≤ 0)) := Lib.hid (by rw [HC.out]; unfold okE; rw [if_neg (by omega)])
              clear hi0 hi5
              obtain ⟨ck, hck⟩ : ∃ ck, checkI [⟨T, a6, n6, c6, varE V⟩] true = ck := ⟨_, rfl⟩
              have HCK := Lib.hid hck
              clear hck
              go_wp2_with fail
              refine (check_any _ 1 1 [⟨T, a6, n6, c6, varE V⟩] true w7 HV.out (by omega)).mono ?_
              rintro e w8 ⟨rfl, hk8⟩
              have HK8 := Lib.hid (HK7.out.trans (hk8.mono HK7.out.size))
              have HV8 : Hid (∀ w', Below w8.heap.size w8 w' → Hv w' (some ⟨w6.heap.size, 0, none⟩) 1 1 [⟨T, a6, n6, c6, varE V⟩]) := Lib.hid (fun w' h => HV.out w' (hk8.trans (h.mono hk8.size)))
              have hc2 := HC2.out
              rw [HCK.out] at hc2 ⊢
              clear hk8
              go_wp2_with fail
              refine (rcheck_one _ 1 ⟨T, a6, n6, c6, varE V⟩ HEI.out w8 HV8.out).mono ?_
              rintro e w9 ⟨rfl, hk9⟩
              have HK9 := Lib.hid (HK8.out.trans (hk9.mono HK8.out.size))
              have HV9 : Hid (∀ w', Below w9.heap.size w9 w' → Hv w' (some ⟨w6.heap.size, 0, none⟩) 1 1 [⟨T, a6, n6, c6, varE V⟩]) := Lib.hid (fun w' h => HV8.out w' (hk9.trans (h.mono hk9.size)))
              rw [HCK.out]
              clear hk9
              go_wp2_with fail
              refine (check_any _ 1 1 [⟨T, a6, n6, c6, varE V⟩] true w9 HV9.out (by omega)).mono ?_
              rintro e w10 ⟨rfl, hk10⟩
              have HK10 := Lib.hid (HK9.out.trans (hk10.mono HK9.out.size))
              rw [HCK.out]
              clear hk10
              go_wp2_with fail
              go_returns
              exact ⟨by simp, HK10.out⟩

end Go.Proofs.Ytabdoikfcaiobaa
