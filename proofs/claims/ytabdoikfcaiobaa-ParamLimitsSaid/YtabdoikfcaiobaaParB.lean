/- Write of the package qparam. -/
import Derived.Test.YtabdoikfcaiobaaParA
namespace Go.Proofs.Ytabdoikfcaiobaa
open Go.RowKit Go.Deep Go.Maps

set_option maxHeartbeats 1600000 in
theorem qwrite_any (a2 : Option Addr) (m2 cap2 : Nat) (l : List Fr) (w : World) (hv : ∀ w', Below w.heap.size w w' → Hv w' a2 m2 cap2 l) (hl3 : ∀ f ∈ l, f.n ≤ 1000000) :
    Calls Try.prog 8 #[.slice a2 m2 cap2] w fun e w' => ∃ a' n' cap', e = .returned (.tuple #[.slice a' n' cap', .int .i64 (paErr l)]) ∧ Bo w.heap.size w' a' n' cap' (paR l) ∧ Below w.heap.size w w' := by
  have hv0 := hv w (Below.refl _ _)
  have hcap := hv0.2.1.le
  have hmax := hv0.2.1.max
  unfold maxLen at hmax
  have HV := Lib.hid hv
  have HM := Lib.hid hv0.1
  have HL := Lib.hid hl3
  clear hv hv0 hl3
  by_cases h32 : 32 < m2
  · have HBAD := Lib.hid (pa_bad (l := l) (pa_many (by rw [← HM.out]; exact h32)))
    go_enter Try.func8, Try.ntmps8
    go_wp2_with fail
    go_returns
    rw [HBAD.out.1, HBAD.out.2]
    exact ⟨none, 0, 0, rfl, Bo.nil _ _, Below.refl _ _⟩
  · have hmm := @run_makeMap Try.prog
    have m0 := Mp.made w
    have M0 := Lib.hid m0
    clear m0
    go_enter Try.func8, Try.ntmps8
    go_wp2_with fail
    clear hmm
    have HBEL := Lib.hid ((Below.refl w.heap.size w).alloc (Nat.le_refl _) (.map #[] 0))
    have HSZ : Hid ((w.alloc (.map #[] 0)).heap.size = w.heap.size + 1) := Lib.hid (by simp)
    generalize w.alloc (.map #[] 0) = W0 at *
    go_loopg [4, 16] m2 (fun k vb vi wr => ∃ (i : Nat) (a' : Option Addr) (cap' : Nat) (zs : List UInt8), k + i = m2 ∧ vi = .int .i64 i ∧ vb = .slice a' zs.length cap' ∧ frsOK (l.take i) = true ∧ (idL (l.take i)).Nodup ∧ zs = frsE (l.take i) ∧ zs.length ≤ 1000016 * i ∧ Bo (w.heap.size + 1) wr a' zs.length cap' zs ∧ Mp wr w.heap.size i (idN (idL (l.take i))) ∧ Below w.heap.size w wr ∧ w.heap.size + 1 ≤ wr.heap.size)
    case atStart => exact ⟨0, none, 0, [], by omega, rfl, rfl, rfl, by simp [idL], by simp [frsE], by simp, Bo.nil _ _, M0.out.as (fun x => by simp [idN, idL]), HBEL.out, by rw [HSZ.out]; omega⟩
    case round =>
      obtain ⟨i, a', cap', zs, hi, rfl, rfl, hok, hnd, hz, hlen, ho, hmp, hk, hsz⟩ := hrel
      have HI := Lib.hid hi
      have HOK := Lib.hid hok
      have HND := Lib.hid hnd
      have HZ := Lib.hid hz
      have HO := Lib.hid ho
      have HMP := Lib.hid hmp
      have HK := Lib.hid hk
      clear hi hok hnd hz ho hmp hk
      by_cases hik : i < m2
      · have hix : i < l.length := by have := HM.out; omega
        have hvr := HV.out wr HK.out
        obtain ⟨ht0, ht1, hfb⟩ := hvr.2.2 l[i] (List.getElem_mem hix)
        have hfl := HL.out l[i] (List.getElem_mem hix)
        obtain ⟨b2, off2, rfl, hblt, hcell⟩ := hvr.get (by omega)
        obtain ⟨hc0, hc1⟩ := hcell i hix
        have HFN : Hid (l[i].n = l[i].xs.length) := hfb.1
        have HFB := Lib.hid hfb
        have HTW : Hid (idN (idL (l.take i)) l[i].t ≠ 0 → paOK l = false) := Lib.hid (fun h => pa_twice hix (idN_in h))
        have HFR : Hid (frOK l[i] = false → paOK l = false) := Lib.hid (fun h => pa_frame hix h)
        have HTK : Hid (idL (l.take (i + 1)) = idL (l.take i) ++ [l[i].t]) := Lib.hid (idL_take l i hix)
        clear hcell hvr hfb
        generalize hf : l[i] = f at *
        obtain ⟨ft, fa, fn, fcap, fxs⟩ := f
        simp only at hc0 hc1 ht0 ht1 hfl HFN HFB HTW HTK
        have HF := Lib.hid hf
        clear hf
        have hu : inU ft := ⟨ht0, ht1⟩
        have HU := Lib.hid hu
        clear hu
        have hib := idN_bd (idL (l.take i)) ft
        go_wp2_with (at_lookup; refine halt ?_)
        refine Halted.go (wpMp_lookup _ rfl _ _ rfl w.heap.size i (idN (idL (l.take i))) rfl (HMP.out.alloc _) ft rfl HU.out ?_)
        go_wp2_with (at_mapUpdate; refine halt ?_)
        refine Halted.go (wpMp_update _ rfl _ _ _ rfl w.heap.size i (idN (idL (l.take i))) rfl (HMP.out.alloc _) (by omega) ft (idN (idL (l.take i)) ft + 1) rfl HU.out rfl (by omega) (by omega) ?_)
        intro w1 hm1 hk1
        have HS1 := Lib.hid (hk1.blk (Blk.new wr #[.int .u64 ft, .slice fa fn fcap] 42) (by omega))
        have q0 := HS1.out.cell 0
        have q1 := HS1.out.cell 1
        have HM1 := Lib.hid hm1
        have HK1 := Lib.hid (Keeps.below (HK.out.alloc (by omega) (.cells #[.int .u64 ft, .slice fa fn fcap] 42 (0, 0))) hk1 (by simp; omega) (fun k hk => by omega))
        have HO1 := Lib.hid ((HO.out.alloc' (.cells #[.int .u64 ft, .slice fa fn fcap] 42 (0, 0))).keep hk1 (fun bb hb e => by have := (HO.out.ge bb hb).1; omega))
        have hsz1 : wr.heap.size + 1 ≤ w1.heap.size := by have := hk1.size; simp at this; omega
        clear hm1 hk1
        go_wp2_with (at_lookup; refine halt ?_)
        refine Halted.go (wpMp_lookup _ rfl _ _ rfl w.heap.size (i + 1) _ rfl HM1.out ft rfl HU.out ?_)
        simp only [if_true]
        by_cases h0 : idN (idL (l.take i)) ft = 0
        · have HNO : Hid ((idL (l.take (i + 1))).Nodup) := Lib.hid (by rw [HTK.out]; exact nodup_add HND.out (idN_not h0))
          have HM2 : Hid (Mp w1 w.heap.size (i + 1) (idN (idL (l.take (i + 1))))) := Lib.hid (HM1.out.as (fun y => by rw [HTK.out]; exact idN_add _ _ _ h0))
          have h0' : idN (idL (l.take i)) ft + 1 ≤ 1 := by omega
          clear h0 hc0 hc1
          go_wp2_with fail
          refine (var_any a' zs.length cap' zs _ 2 2 [ft, (fn : Int)] _ (HO1.out.by.alloc _) (Uv.two w1 _ _ _ ht0 ht1 (by omega) (by omega)) (by omega) (by omega)).mono ?_
          rintro e w3 ⟨a3, n3, c3, rfl, ho3, hk3⟩
          have hb3 : Blk w3 wr.heap.size #[.int .u64 ft, .slice fa fn fcap] 42 := (Below.keeps hk3).blk (HS1.out.alloc _) (by simp; omega)
          have r1 := hb3.cell 1
          have HK3 := Lib.hid ((HK1.out.alloc HK1.out.size (.cells #[.int .u64 ft, .int .u64 (fn : Int)] 40 (0, 0))).trans (hk3.mono (by simp; have := HK1.out.size; omega)))
          have HO3 := Lib.hid (ho3.mono (base' := w.heap.size + 1) (by simp; omega))
          have hsz3 : w.heap.size + 1 ≤ w3.heap.size := by have := hk3.size; simp at this; omega
          have HM3 := Lib.hid ((HM2.out.alloc (.cells #[.int .u64 ft, .int .u64 (fn : Int)] 40 (0, 0))).keep (Below.keeps hk3) (by simp; omega))
          have HFB3 := Lib.hid ((HV.out w3 HK3.out).2.2 l[i] (List.getElem_mem hix)).2.2
          rw [HF.out] at HFB3
          simp only at HFB3
          clear ho3 hk3 hb3 q0 q1
          by_cases hov : varsOK [ft, (fn : Int)] = true
          · have he : varsErr [ft, (fn : Int)] = 0 := by unfold varsErr; rw [hov]; rfl
            have hx : Hid (varsR zs [ft, (fn : Int)] = zs ++ varsE [ft, (fn : Int)]) := by show _ = _; unfold varsR; rw [hov, if_pos rfl]
            have HOV : Hid (frOK l[i] = true) := by show _ = _; rw [HF.out]; unfold frOK; simp only; rw [← HFN.out]; exact hov
            have hvl := varsE_two ft (fn : Int)
            have hn3 : n3 = zs.length + (varsE [ft, (fn : Int)]).length := by have := HO3.out.1; rwa [hx.out, List.length_append] at this
            have HN3 := Lib.hid hn3
            have hn3b : n3 ≤ zs.length + 16 := by omega
            rw [he]
            clear he hov hn3 hvl
            go_wp2_with (at_builtin; refine halt ?_)
            refine Halted.go (wpList_app8 w3 rfl _ _ 25 rfl (w.heap.size + 1) a3 _ c3 (zs ++ varsE [ft, (fn : Int)]) rfl (by have h := HO3.out; rw [hx.out] at h; exact h.bd) (.slice fa fn fcap) (by go_simp) fxs (by have h := HFB3.out.2.src Try.underlying25 (Bs_one fxs); rw [HFN.out] at h ⊢; exact h) (by have := HFN.out; omega) hsz3 ?_)
            intro a4 c4 w4 ho4 hk4 hn4 hown4 hnil4
            have hbo : Bo (w.heap.size + 1) w4 a4 (n3 + fxs.length) c4 (zs ++ varsE [ft, (fn : Int)] ++ fxs) := by
              by_cases h0 : fxs.length = 0
              · obtain ⟨rfl, rfl, rfl⟩ := hnil4 h0
                have h := HO3.out
                rw [hx.out] at h
                obtain rfl : fxs = [] := List.eq_nil_of_length_eq_zero h0
                simpa using h
              · exact hown4 (by omega)
            have HO4 := Lib.hid hbo
            have HM4 := Lib.hid (HM3.out.keep hk4 (fun e => by have := e.1; omega))
            have HK4 := Lib.hid (Keeps.mine_below HK3.out hk4 HK3.out.size (Nat.le_succ _))
            have hsz4 : w.heap.size + 1 ≤ w4.heap.size := Nat.le_trans hsz3 hk4.size
            clear ho4 hk4 hn4 hown4 hnil4 hbo
            go_wp2_with fail
            obtain ⟨k', rfl⟩ : ∃ k', gk = k' + 1 := ⟨gk - 1, by have := HI.out; omega⟩
            go_roundg k'
            case measure => omega
            case rel =>
              have hfe : frE l[i] = varsE [ft, (fn : Int)] ++ fxs := by rw [HF.out]; unfold frE; simp only; rw [← HFN.out]
              have hnl : n3 + fxs.length = (zs ++ frE l[i]).length := by rw [hfe, HN3.out]; simp; omega
              refine ⟨i + 1, a4, c4, zs ++ frE l[i], by have := HI.out; omega, by go_num, by rw [hnl], frsOK_step hix HOK.out HOV.out, HNO.out, by have e := frsE_step hix []; simp only [List.nil_append] at e; rw [e, ← HZ.out], ?_, ?_, HM4.out, HK4.out, hsz4⟩
              · rw [← hnl]; have := HFN.out; omega
              · rw [← hnl, hfe, ← List.append_assoc]; exact HO4.out
          · have he : varsErr [ft, (fn : Int)] = 21 := by unfold varsErr; rw [if_neg hov]
            have HBAD := Lib.hid (pa_bad (HFR.out (by unfold frOK; simp only; rw [← HFN.out]; simpa using hov)))
            rw [he]
            clear he hov
            go_wp2_with fail
            go_returns
            rw [HBAD.out.1, HBAD.out.2]
            exact ⟨none, 0, 0, rfl, Bo.nil _ _, HK3.out⟩
        · have HBAD := Lib.hid (pa_bad (HTW.out h0))
          have h0' : 1 < idN (idL (l.take i)) ft + 1 := by omega
          clear h0
          go_wp2_with fail
          go_returns
          rw [HBAD.out.1, HBAD.out.2]
          exact ⟨none, 0, 0, rfl, Bo.nil _ _, HK1.out⟩
      · have hik2 : i = m2 := by have := HI.out; omega
        have HGOOD : Hid (paR l = frsE l ∧ paErr l = 0) := by
          refine pa_good (pa_all (by rw [← HM.out]; omega) ?_ ?_)
          · have := HND.out
            rwa [hik2, HM.out, List.take_length] at this
          · have := HOK.out
            rwa [hik2, HM.out, List.take_length] at this
        have HE2 : Hid (zs = frsE l) := by
          have := HZ.out
          rw [hik2, HM.out, List.take_length] at this
          exact this
        clear hik2
        go_wp2_with fail
        go_returns
        rw [HGOOD.out.1, HGOOD.out.2, ← HE2.out]
        exact ⟨a', zs.length, cap', rfl, ⟨HO.out.1, (HO.out.mono (Nat.le_succ _)).2⟩, HK.out⟩

end Go.Proofs.Ytabdoikfcaiobaa
