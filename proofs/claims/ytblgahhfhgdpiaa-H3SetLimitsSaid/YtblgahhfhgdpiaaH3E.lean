/- Settings of the package h3frame. -/
import Derived.Test.YtblgahhfhgdpiaaH3D
import Derived.Test.YtblgahhfhgdpiaaMp
namespace Go.Proofs.Ytblgahhfhgdpiaa
open Go.RowKit Go.Deep Go.Maps

/-- How often a number stands ahead. -/
def idsN (l : List (Int × Int)) (x : Int) : Int := if x ∈ l.map (·.1) then 1 else 0
theorem idsN_bd (l : List (Int × Int)) (x : Int) : 0 ≤ idsN l x ∧ idsN l x ≤ 1 := by unfold idsN; split <;> omega
theorem idsN_step {l : List (Int × Int)} {i : Nat} (hi : i < l.length) (x : Int) (h0 : idsN (l.take i) l[i].1 = 0) : (if x = l[i].1 then idsN (l.take i) l[i].1 + 1 else idsN (l.take i) x) = idsN (l.take (i + 1)) x := by
  rw [h0]
  unfold idsN
  rw [List.take_succ_eq_append_getElem hi, List.map_append]
  by_cases e : x = l[i].1
  · subst e; simp
  · simp [e]
theorem idsN_no {l : List (Int × Int)} {i : Nat} (hi : i < l.length) (h0 : idsN (l.take i) l[i].1 = 0) : ∀ x ∈ l.take i, x.1 ≠ l[i].1 := by
  intro x hx e
  unfold idsN at h0
  rw [if_pos (by rw [← e]; exact List.mem_map.2 ⟨x, hx, rfl⟩)] at h0
  omega
theorem idsN_twice {l : List (Int × Int)} {i : Nat} (hi : i < l.length) (h0 : idsN (l.take i) l[i].1 ≠ 0) : setTwice l = true := by
  unfold idsN at h0
  split at h0
  · rename_i hm
    obtain ⟨x, hx, e⟩ := List.mem_map.1 hm
    obtain ⟨k, hk, rfl⟩ := List.getElem_of_mem hx
    have hk' : k < i := by simp at hk; omega
    rw [List.getElem_take] at e
    exact twice_of hk' hi e
  · exact absurd rfl h0

theorem Mp.as {w : World} {b n : Nat} {f g : Int → Int} (h : Mp w b n f) (e : ∀ x, f x = g x) : Mp w b n g := by
  obtain rfl : f = g := funext e
  exact h

set_option maxHeartbeats 3200000 in
theorem set_any (a : Option Addr) (n cap : Nat) (l : List (Int × Int)) (w : World) (hv : ∀ w', Below w.heap.size w w' → Sv w' a n cap l) (hbig : n ≤ 1000) :
    Calls Try.prog 18 #[.slice a n cap] w fun e w' => ∃ a' n' cap', e = .returned (.tuple #[.agg #[.int .u64 (setT l), .slice a' n' cap'], .int .i64 (setErr l)]) ∧ Bo w.heap.size w' a' n' cap' (setB l) ∧ Below w.heap.size w w' := by
  have hv0 := hv w (Below.refl _ _)
  have hcap := hv0.2.1.le
  have hmax := hv0.2.1.max
  unfold maxLen at hmax
  have HV := Lib.hid hv
  have HN := Lib.hid hv0.1
  clear hv hv0
  by_cases h32 : 32 < n
  · have HBAD := Lib.hid (err_bad (l := l) (by unfold setBad; rw [← HN.out]; simp [h32]))
    go_enter Try.func18, Try.ntmps18
    go_wp2_with fail
    go_returns
    rw [HBAD.out.1, HBAD.out.2.1, HBAD.out.2.2]
    exact ⟨none, 0, 0, rfl, Bo.nil _ _, (Below.refl _ _).alloc (Nat.le_refl _) _⟩
  · have hmm := @run_makeMap Try.prog
    go_enter Try.func18, Try.ntmps18
    go_wp2_with fail
    clear hmm
    have b0 : Blk ((w.alloc (.cells #[.int .u64 0, .slice none 0 0] 33 (0, 0))).alloc (.map #[] 0)) w.heap.size #[.int .u64 0, .slice none 0 0] 33 := (Blk.new w _ _).alloc _
    have m0 : Mp ((w.alloc (.cells #[.int .u64 0, .slice none 0 0] 33 (0, 0))).alloc (.map #[] 0)) (w.heap.size + 1) 0 (fun _ => 0) := by
      have := Mp.made (w.alloc (.cells #[.int .u64 0, .slice none 0 0] 33 (0, 0)))
      rwa [World.size_alloc] at this
    have hbel : Below w.heap.size w ((w.alloc (.cells #[.int .u64 0, .slice none 0 0] 33 (0, 0))).alloc (.map #[] 0)) := ((Below.refl _ _).alloc (Nat.le_refl _) _).alloc (by simp) _
    have hsize : ((w.alloc (.cells #[.int .u64 0, .slice none 0 0] 33 (0, 0))).alloc (.map #[] 0)).heap.size = w.heap.size + 2 := by simp
    generalize (w.alloc (.cells #[.int .u64 0, .slice none 0 0] 33 (0, 0))).alloc (.map #[] 0) = W0 at *
    have B0 := Lib.hid b0
    have M0 := Lib.hid m0
    have HBEL := Lib.hid hbel
    have HSZ := Lib.hid hsize
    clear b0 m0 hbel hsize
    go_loopg [19] n (fun k vi wr => ∃ (i : Nat), k + i = n ∧ vi = .int .i64 i ∧ ((l.take i).map (·.1)).Nodup ∧ Mp wr (w.heap.size + 1) i (idsN (l.take i)) ∧ Blk wr w.heap.size #[.int .u64 0, .slice none 0 0] 33 ∧ Below w.heap.size w wr ∧ w.heap.size + 2 ≤ wr.heap.size)
    case atStart => exact ⟨0, by omega, rfl, by simp, M0.out.as (fun x => by simp [idsN]), B0.out, HBEL.out, by rw [HSZ.out]; omega⟩
    case round =>
      obtain ⟨i, hi, rfl, ht, hmp, hb0, hk, hsz⟩ := hrel
      have HI := Lib.hid hi
      have HT := Lib.hid ht
      have HMP := Lib.hid hmp
      have HB0 := Lib.hid hb0
      have HK := Lib.hid hk
      clear hi ht hmp hb0 hk
      by_cases hik : i < n
      · have hix : i < l.length := by have := HN.out; omega
        have hsv := HV.out wr HK.out
        have hu := (hsv.2.2 l[i] (List.getElem_mem hix)).1
        have HU := Lib.hid hu
        obtain ⟨bb, oo, rfl, hbb, hcell⟩ := hsv.get (by omega)
        obtain ⟨p1, p2⟩ := hcell i hix
        clear hcell hsv hu
        have hib := idsN_bd (l.take i) l[i].1
        go_wp2_with (at_lookup; refine halt ?_)
        refine Halted.go (wpMp_lookup _ rfl _ _ rfl (w.heap.size + 1) i (idsN (l.take i)) rfl (HMP.out.alloc _) l[i].1 rfl HU.out ?_)
        go_wp2_with (at_mapUpdate; refine halt ?_)
        refine Halted.go (wpMp_update _ rfl _ _ _ rfl (w.heap.size + 1) i (idsN (l.take i)) rfl (HMP.out.alloc _) (by omega) l[i].1 (idsN (l.take i) l[i].1 + 1) rfl HU.out rfl (by omega) (by omega) ?_)
        intro w1 hm1 hk1
        have hs := hk1.blk (Blk.new wr #[.int .u64 l[i].1, .int .u64 l[i].2] 57) (by omega)
        have q0 := hs.cell 0
        have HM1 := Lib.hid hm1
        have HB1 := Lib.hid (hk1.blk (HB0.out.alloc _) (by omega))
        have HK1 := Lib.hid (Keeps.below (HK.out.alloc (by omega) (.cells #[.int .u64 l[i].1, .int .u64 l[i].2] 57 (0, 0))) hk1 (by simp; omega) (fun k hk => by omega))
        have hsz1 : w.heap.size + 2 ≤ w1.heap.size := by have := hk1.size; simp at this; omega
        clear hm1 hk1 hs
        go_wp2_with (at_lookup; refine halt ?_)
        refine Halted.go (wpMp_lookup _ rfl _ _ rfl (w.heap.size + 1) (i + 1) _ rfl HM1.out l[i].1 rfl HU.out ?_)
        simp only [if_true]
        by_cases h0 : idsN (l.take i) l[i].1 = 0
        · have HNO := Lib.hid (nodup_step hix HT.out (idsN_no hix h0))
          have HM2 := Lib.hid (HM1.out.as (fun x => idsN_step hix x h0))
          have h0' : idsN (l.take i) l[i].1 + 1 ≤ 1 := by omega
          clear h0
          go_wp2_with fail
          obtain ⟨k', rfl⟩ : ∃ k', gk = k' + 1 := ⟨gk - 1, by have := HI.out; omega⟩
          go_roundg k'
          case measure => omega
          case rel => exact ⟨i + 1, by have := HI.out; omega, by go_num, HNO.out, HM2.out, HB1.out, HK1.out, hsz1⟩
        · have HBAD := Lib.hid (err_bad (l := l) (by unfold setBad; rw [idsN_twice hix h0]; simp))
          have h0' : 1 < idsN (l.take i) l[i].1 + 1 := by omega
          clear h0
          obtain ⟨z1, z2, z3, z4, z5, z6⟩ := frame_cells HB1.out (.int .u64 0) (.slice none 0 0)
          go_wp2_with fail
          (try simp only [Exit.inBlock, Exit.then])
          refine bodyPost_ret (by simp [results, Try.results18, go_sem, z5, z6]; try rfl) rfl ?_
          rw [HBAD.out.1, HBAD.out.2.1, HBAD.out.2.2]
          exact ⟨none, 0, 0, rfl, Bo.nil _ _, (HK1.out.setCell (Nat.le_refl _) _).setCell (Nat.le_refl _) _⟩
      · have hil : i = n := by have := HI.out; omega
        have HND : Hid ((l.map (·.1)).Nodup) := by have h := HT.out; rwa [List.take_of_length_le (by have := HN.out; omega)] at h
        clear hil
        go_wp2_with fail
        go_loopg [37, 7] n (fun g vi vb wr => ∃ (j : Nat) (a' : Option Addr) (cap' : Nat) (zs : List UInt8), g + j = n ∧ vi = .int .i64 j ∧ vb = .slice a' zs.length cap' ∧ setOK (l.take j) = true ∧ zs = setE (l.take j) ∧ zs.length ≤ 16 * j ∧ Bo (w.heap.size + 1) wr a' zs.length cap' zs ∧ Below w.heap.size w wr ∧ Blk wr w.heap.size #[.int .u64 0, .slice none 0 0] 33 ∧ w.heap.size + 1 ≤ wr.heap.size)
        case atStart => exact ⟨0, none, 0, [], by omega, rfl, rfl, rfl, by simp [setE], by simp, Bo.nil _ _, HK.out, HB0.out, by omega⟩
        case round =>
          obtain ⟨j, a2, c2, zs, hj, rfl, rfl, hok, hz, hlen, ho, hk, hb0, hsz⟩ := hrel
          have HJ := Lib.hid hj
          have HOK := Lib.hid hok
          have HZ := Lib.hid hz
          have HO := Lib.hid ho
          have HK := Lib.hid hk
          have HB0 := Lib.hid hb0
          clear hj hok hz ho hk hb0
          by_cases hjn : j < n
          · have hjx : j < l.length := by have := HN.out; omega
            have hsv := HV.out wr HK.out
            obtain ⟨⟨hu0, hu1⟩, hv0, hv1⟩ := hsv.2.2 l[j] (List.getElem_mem hjx)
            obtain ⟨bb, oo, rfl, hbb, hcell⟩ := hsv.get (by omega)
            obtain ⟨p1, p2⟩ := hcell j hjx
            clear hcell hsv
            go_wp2_with fail
            refine (var_any a2 zs.length c2 zs _ 2 2 [l[j].1, l[j].2] _ ((HO.out.by.alloc _).alloc _) (Uv.two2 wr _ _ _ _ hu0 hu1 hv0 hv1) (by omega) (by omega)).mono ?_
            rintro e w3 ⟨a3, n3, c3, rfl, ho3, hk3⟩
            have HK3 := Lib.hid (((HK.out.alloc (by omega) (.cells #[.int .u64 l[j].1, .int .u64 l[j].2] 57 (0, 0))).alloc (by simp; omega) (.cells #[.int .u64 l[j].1, .int .u64 l[j].2] 31 (0, 0))).trans (hk3.mono (by simp; omega)))
            have HO3 := Lib.hid (ho3.mono (base' := w.heap.size + 1) (by simp; omega))
            have HB3 := Lib.hid ((Below.keeps hk3).blk ((HB0.out.alloc _).alloc _) (by simp; omega))
            have HS3 : Hid (w.heap.size + 1 ≤ w3.heap.size) := by show _ ≤ _; have := hk3.size; simp at this; omega
            clear ho3 hk3
            by_cases hov : varsOK [l[j].1, l[j].2] = true
            · have he : varsErr [l[j].1, l[j].2] = 0 := by unfold varsErr; rw [hov]; rfl
              have hx : Hid (varsR zs [l[j].1, l[j].2] = zs ++ varsE [l[j].1, l[j].2]) := by show _ = _; unfold varsR; rw [hov, if_pos rfl]
              have HOV := Lib.hid hov
              rw [he]
              clear he hov
              go_wp2_with fail
              obtain ⟨k', rfl⟩ : ∃ k', gk = k' + 1 := ⟨gk - 1, by have := HJ.out; omega⟩
              go_roundg k'
              case measure => omega
              case rel =>
                have hvl := varsE_two l[j].1 l[j].2
                have hn3 : n3 = (zs ++ varsE [l[j].1, l[j].2]).length := by have := HO3.out.1; rwa [hx.out] at this
                refine ⟨j + 1, a3, c3, zs ++ varsE [l[j].1, l[j].2], by have := HJ.out; omega, by go_num, by rw [hn3], setOK_step hjx HOK.out HOV.out, by rw [setE_step hjx, ← HZ.out], by rw [List.length_append]; omega, ?_, HK3.out, HB3.out, HS3.out⟩
                have h := HO3.out; rw [hx.out] at h; rw [← hn3]; exact h
            · have he : varsErr [l[j].1, l[j].2] = 21 := by unfold varsErr; rw [if_neg hov]
              have HE := Lib.hid (err_num (not_bad (by rw [← HN.out]; exact h32) HND.out) (setOK_not hjx (by simpa using hov)))
              rw [he]
              clear he hov
              obtain ⟨z1, z2, z3, z4, z5, z6⟩ := frame_cells HB3.out (.int .u64 0) (.slice none 0 0)
              go_wp2_with fail
              (try simp only [Exit.inBlock, Exit.then])
              refine bodyPost_ret (by simp [results, Try.results18, go_sem, z5, z6]; try rfl) rfl ?_
              rw [HE.out.1, HE.out.2.1, HE.out.2.2]
              exact ⟨none, 0, 0, rfl, Bo.nil _ _, (HK3.out.setCell (Nat.le_refl _) _).setCell (Nat.le_refl _) _⟩
          · have hjl : j = n := by have := HJ.out; omega
            have HE := Lib.hid (err_none (not_bad (by rw [← HN.out]; exact h32) HND.out) (by have h := HOK.out; rwa [hjl, HN.out, List.take_length] at h))
            have HZ2 : Hid (zs = setE l) := by have h := HZ.out; rwa [hjl, HN.out, List.take_length] at h
            clear hjl
            obtain ⟨z1, z2, z3, z4, z5, z6⟩ := frame_cells HB0.out (.int .u64 4) (.slice a2 zs.length c2)
            go_wp2_with fail
            (try simp only [Exit.inBlock, Exit.then])
            refine bodyPost_ret (by simp [results, Try.results18, go_sem, z5, z6]; try rfl) rfl ?_
            rw [HE.out.1, HE.out.2.1, HE.out.2.2]
            refine ⟨a2, zs.length, c2, rfl, ?_, (HK.out.setCell (Nat.le_refl _) _).setCell (Nat.le_refl _) _⟩
            rw [← HZ2.out]
            refine (HO.out.mono (by omega)).keep (((Keeps.refl (fun k => k = w.heap.size) _).put 0 _).put 1 _) (fun b hb e => ?_)
            have := (HO.out.ge b hb).1
            omega

end Go.Proofs.Ytblgahhfhgdpiaa
