/- Params of the package bifoldref17. -/
import Derived.Test.YtabdoikfcaiobaaParB
import Derived.Test.YtabdoikfcaiobaaOwn
import Derived.Test.YtabdoikfcaiobaaHeldB
import Derived.IntWalk
namespace Go.Proofs.Ytabdoikfcaiobaa
open Go.RowKit Go.Deep Go.Maps

theorem put_own (base : Nat) (a : Option Addr) (m cap : Nat) (xs : List UInt8) (a2 : Option Addr) (m2 cap2 : Nat) (vs : List Int) (w : World) (hd : Bo base w a m cap xs) (hv : Uv w a2 m2 cap2 vs) (hbase : base ≤ w.heap.size) (hfar : 0 < m2 → ∀ b, a2.map (·.block) = some b → ¬ mine base a b) (hl : m ≤ 1000000000) (hl2 : m2 ≤ 1000000000) :
    Calls Try.prog 18 #[.slice a m cap, .slice a2 m2 cap2] w fun e w' => ∃ a' n' cap', e = .returned (.slice a' n' cap') ∧ Bo base w' a' n' cap' (varsR xs vs) ∧ Keeps (mine base a) w w' ∧ Near base w a a' := by
  go_enter Try.func18, Try.ntmps18
  go_wp2_with fail
  refine (varsr_own base a m cap xs a2 m2 cap2 vs w hd hv hbase hfar hl hl2).mono ?_
  rintro e w1 ⟨a1, n1, c1, rfl, ho, hk, hn⟩
  have HO := Lib.hid ho
  have HK := Lib.hid hk
  have HN := Lib.hid hn
  clear ho hk hn
  go_wp2_with fail
  go_returns
  exact ⟨_, _, _, rfl, HO.out, HK.out, HN.out⟩

theorem Hv.at {w : World} {b off n cap : Nat} {l : List Fr} (h : Hv w (some ⟨b, off, none⟩) n cap l) (i : Nat) (hi : i < l.length) :
    w.cell? ⟨b, off + i * 2, none⟩ = some (.int .u64 l[i].t) ∧ w.cell? ⟨b, off + i * 2 + 1, none⟩ = some (.slice l[i].a l[i].n l[i].cap) := by
  obtain ⟨b', off', e, _, hc⟩ := h.get (by have := h.1; omega)
  cases e
  exact hc i hi
theorem frOK_le {f : Fr} (h : frOK f = true) : f.t ≤ 4611686018427387903 ∧ (f.xs.length : Int) ≤ 4611686018427387903 := by
  unfold frOK varsOK at h
  simp at h
  exact h

theorem Bo.drewN' {base : Nat} {w : World} {a : Option Addr} {n cap : Nat} {xs : List UInt8} (h : Bo base w a n cap xs) (q : Nat) : Bo base (w.drewN q) a n cap xs := h.keep (Keeps.drewN (Keeps.refl (fun _ => False) w) q) (fun _ _ h => h)

set_option maxHeartbeats 1600000 in
theorem pwrite_any (a2 : Option Addr) (m2 cap2 : Nat) (l : List Fr) (w : World) (hv : ∀ w', Below w.heap.size w w' → Hv w' a2 m2 cap2 l) (hl3 : ∀ f ∈ l, f.n ≤ 1000000) :
    Calls Try.prog 9 #[.slice a2 m2 cap2] w fun e w' => ∃ a' n' cap', e = .returned (.tuple #[.slice a' n' cap', .int .i64 (paErr l)]) ∧ Bo w.heap.size w' a' n' cap' (paR l) ∧ Below w.heap.size w w' := by
  have hv0 := hv w (Below.refl _ _)
  have hcap := hv0.2.1.le
  have hmax := hv0.2.1.max
  unfold maxLen at hmax
  have HV := Lib.hid hv
  have HM := Lib.hid hv0.1
  have HL := Lib.hid hl3
  clear hv hv0 hl3
  by_cases h32 : 32 < m2
  · have HBAD := Lib.hid (pa_bad (l := l) (pa_many (by rw [← HM.out]; exact h32)))
    go_enter Try.func9, Try.ntmps9
    go_wp2_with fail
    go_returns
    rw [HBAD.out.1, HBAD.out.2]
    exact ⟨none, 0, 0, rfl, Bo.nil _ _, Below.refl _ _⟩
  · go_enter Try.func9, Try.ntmps9
    go_wp2_with fail
    go_loopg [4, 5] m2 (fun k vb vi wr => ∃ (i : Nat) (a' : Option Addr) (cap' : Nat) (zs : List UInt8), k + i = m2 ∧ vi = .int .i64 i ∧ vb = .slice a' zs.length cap' ∧ frsOK (l.take i) = true ∧ (idL (l.take i)).Nodup ∧ zs = frsE (l.take i) ∧ zs.length ≤ 1000016 * i ∧ Bo w.heap.size wr a' zs.length cap' zs ∧ Below w.heap.size w wr)
    case atStart => exact ⟨0, none, 0, [], by omega, rfl, rfl, rfl, by simp [idL], by simp [frsE], by simp, Bo.nil _ _, Below.refl _ _⟩
    case round =>
      obtain ⟨i, a', cap', zs, hi, rfl, rfl, hok, hnd, hz, hlen, ho, hk⟩ := hrel
      have HI := Lib.hid hi
      have HOK := Lib.hid hok
      have HND := Lib.hid hnd
      have HZ := Lib.hid hz
      have HO := Lib.hid ho
      have HK := Lib.hid hk
      clear hi hok hnd hz ho hk
      by_cases hik : i < m2
      · have hix : i < l.length := by have := HM.out; omega
        have HHV := Lib.hid (HV.out wr HK.out)
        obtain ⟨b2, off2, rfl, hblt, hcell0⟩ := HHV.out.get (by omega)
        clear hcell0 hblt
        obtain ⟨wo, rfl⟩ : ∃ wo : World, wo = wr := ⟨_, rfl⟩
        obtain ⟨go, rfl⟩ : ∃ go : Nat, go = gk := ⟨_, rfl⟩
        go_wp2_with fail
        go_loopg [6] i (fun g vk wr => ∃ (j : Nat), g + j = i ∧ vk = .int .i64 j ∧ l[i].t ∉ idL (l.take j) ∧ Bo w.heap.size wr a' zs.length cap' zs ∧ Below w.heap.size w wr)
        case atStart => exact ⟨0, by omega, rfl, by simp [idL], HO.out, HK.out⟩
        case round =>
          obtain ⟨j, hj, rfl, hno, ho, hk⟩ := hrel
          have HJ := Lib.hid hj
          have HNO := Lib.hid hno
          have HOJ := Lib.hid ho
          have HKJ := Lib.hid hk
          clear hj hno ho hk
          obtain ⟨b3, off3, hb3, _, hcell⟩ := (HV.out wr HKJ.out).get (by omega)
          obtain ⟨rfl, rfl⟩ : b3 = b2 ∧ off3 = off2 := by simp at hb3; exact ⟨hb3.1.symm, hb3.2.symm⟩
          clear hb3
          by_cases hji : j < i
          · have hjx : j < l.length := by omega
            obtain ⟨c0, _⟩ := hcell i hix
            obtain ⟨d0, _⟩ := hcell j hjx
            clear hcell
            have z1 : (0 : Int) ≤ (j : Int) := by omega
            have z2 : (j : Int) < (m2 : Int) := by omega
            have z3 : (0 : Int) ≤ (i : Int) := by omega
            have z4 : (i : Int) < (m2 : Int) := by omega
            have HTW : Hid (l[j].t = l[i].t → paOK l = false) := Lib.hid (fun e => pa_twice hix (by
              rw [← e]
              exact List.mem_map.2 ⟨l[j], List.mem_of_getElem? (i := j) (by rw [List.getElem?_take, if_pos hji]; exact List.getElem?_eq_getElem hjx), rfl⟩))
            have HTK : Hid (idL (l.take (j + 1)) = idL (l.take j) ++ [l[j].t]) := Lib.hid (idL_take l j hjx)
            generalize hx : l[j].t = x at *
            generalize hy : l[i].t = y at *
            have HX := Lib.hid hx
            have HY := Lib.hid hy
            clear hx hy
            by_cases hxy : x = y
            · subst hxy
              have HBAD := Lib.hid (pa_bad (HTW.out rfl))
              go_wp2_with fail
              go_quiet (fail)
              go_wp2_with fail
              go_returns
              rw [HBAD.out.1, HBAD.out.2]
              exact ⟨none, 0, 0, rfl, Bo.nil _ _, Below.drewN' HKJ.out _⟩
            · have hb : (x == y) = false := by simpa using hxy
              have HXY := Lib.hid hxy
              clear hxy
              go_wp2_with fail
              go_quiet (fail)
              go_wp2_with fail
              obtain ⟨k', rfl⟩ : ∃ k', gk = k' + 1 := ⟨gk - 1, by have := HJ.out; omega⟩
              go_roundg k'
              case measure => omega
              case rel => exact ⟨j + 1, by have := HJ.out; omega, by go_num, by rw [HTK.out]; simp; exact ⟨HNO.out, fun e => HXY.out e.symm⟩, HOJ.out.drewN' _, Below.drewN' HKJ.out _⟩
          · have hji2 : j = i := by have := HJ.out; omega
            subst hji2
            obtain ⟨c0, c1⟩ := hcell j hix
            obtain ⟨ht0, ht1, hfb⟩ := (HV.out wr HKJ.out).2.2 l[j] (List.getElem_mem hix)
            have hfl := HL.out l[j] (List.getElem_mem hix)
            have HFN : Hid (l[j].n = l[j].xs.length) := hfb.1
            have HFB : Hid (∀ w', Below w.heap.size w w' → By w' l[j].a l[j].n l[j].cap l[j].xs) := Lib.hid (fun w' h => ((HV.out w' h).2.2 l[j] (List.getElem_mem hix)).2.2)
            have HCE : Hid (∀ w', Below w.heap.size w w' → w'.cell? ⟨b3, off3 + j * 2, none⟩ = some (.int .u64 l[j].t) ∧ w'.cell? ⟨b3, off3 + j * 2 + 1, none⟩ = some (.slice l[j].a l[j].n l[j].cap)) := Lib.hid (fun w' h => Hv.at (HV.out w' h) j hix)
            have HBG : Hid (4611686018427387903 < l[j].t → paOK l = false) := Lib.hid (fun h => pa_frame hix (by
              cases e : frOK l[j] with
              | false => rfl
              | true => have := (frOK_le e).1; omega))
            have HGD : Hid (l[j].t ≤ 4611686018427387903 → frOK l[j] = true) := Lib.hid (fun h => by
              unfold frOK varsOK
              have := HFN.out
              simp
              omega)
            have HFE : Hid (frE l[j] = varsE [l[j].t, (l[j].n : Int)] ++ l[j].xs) := Lib.hid (by rw [HFN.out]; rfl)
            have HTK : Hid (idL (l.take (j + 1)) = idL (l.take j) ++ [l[j].t]) := Lib.hid (idL_take l j hix)
            clear hcell hfb
            generalize hf : l[j] = f at *
            obtain ⟨ft, fa, fn, fcap, fxs⟩ := f
            simp only at c0 c1 ht0 ht1 hfl HFN HFB HCE HBG HGD HFE HTK HNO
            have HF := Lib.hid hf
            clear hf
            by_cases hmv : 4611686018427387903 < ft
            · have HBAD := Lib.hid (pa_bad (HBG.out hmv))
              go_wp2_with fail
              go_returns
              rw [HBAD.out.1, HBAD.out.2]
              exact ⟨none, 0, 0, rfl, Bo.nil _ _, HKJ.out⟩
            · have HOV := Lib.hid (HGD.out (by omega))
              have z3 : (0 : Int) ≤ (j : Int) := by omega
              have z4 : (j : Int) < (m2 : Int) := by omega
              have hwf : IntKind.u64.wrap (fn : Int) = (fn : Int) := by rw [IntKind.wrap_u64]; omega
              have hmv2 : ft ≤ 4611686018427387903 := by omega
              have hx : Hid (varsR zs [ft, (fn : Int)] = zs ++ varsE [ft, (fn : Int)]) := by
                show _ = _
                unfold varsR
                rw [show varsOK [ft, (fn : Int)] = true by unfold varsOK; simp; omega, if_pos rfl]
              clear hmv2
              go_wp2_with fail
              refine wp_region_held (S := fun w' => w'.cell? ⟨b3, off3 + j * 2, none⟩ = some (.int .u64 ft) ∧ w'.cell? ⟨b3, off3 + j * 2 + 1, none⟩ = some (.slice fa fn fcap)) (by kernel_rfl) ?_
              change wpAnyH _ _ _ _ _ _ _ _ (World.drew _)
              have hS : (fun w' : World => w'.cell? ⟨b3, off3 + j * 2, none⟩ = some (.int .u64 ft) ∧ w'.cell? ⟨b3, off3 + j * 2 + 1, none⟩ = some (.slice fa fn fcap)) wr.drew := ⟨c0, c1⟩
              refine wpAnyH_take (i := 0) (v := ?_) rfl (by kernel_rfl) (by kernel_rfl) (by kernel_rfl) (fun _ _ _ h => h) (Or.inl ⟨by kernel_rfl, ?_⟩) hS ?_
              rotate_left
              · intro wz ⟨_, _⟩; go_simp; try with_reducible rfl
              refine wpAnyH_take (i := 1) (v := ?_) rfl (by kernel_rfl) (by kernel_rfl) (by kernel_rfl) (fun _ _ _ h => h) (Or.inl ⟨by kernel_rfl, ?_⟩) hS ?_
              rotate_left
              · intro wz ⟨_, _⟩; go_simp; try with_reducible rfl
              refine wpAnyH_take (i := 2) (v := ?_) rfl (by kernel_rfl) (by kernel_rfl) (by kernel_rfl) (fun _ _ _ h => h) (Or.inl ⟨by kernel_rfl, ?_⟩) hS ?_
              rotate_left
              · intro wz ⟨_, _⟩; go_simp; try with_reducible rfl
              refine wpAnyH_take (i := 3) (v := ?_) rfl (by kernel_rfl) (by kernel_rfl) (by kernel_rfl) (fun _ _ _ h => h) (Or.inl ⟨by kernel_rfl, ?_⟩) hS ?_
              rotate_left
              · intro wz ⟨_, _⟩; go_simp; try with_reducible rfl
              refine wpAnyH_take (i := 4) (v := ?_) rfl (by kernel_rfl) (by kernel_rfl) (by kernel_rfl) (fun _ _ _ h => h) (Or.inl ⟨by kernel_rfl, ?_⟩) hS ?_
              rotate_left
              · intro wz ⟨_, _⟩; go_simp; try with_reducible rfl
              refine wpAnyH_take (i := 5) (v := ?_) rfl (by kernel_rfl) (by kernel_rfl) (by kernel_rfl) (fun _ _ _ h => h) (Or.inl ⟨by kernel_rfl, ?_⟩) hS ?_
              rotate_left
              · intro wz ⟨_, _⟩; go_simp; try with_reducible rfl
              refine wpAnyH_take (i := 6) (v := ?_) rfl (by kernel_rfl) (by kernel_rfl) (by kernel_rfl) (fun _ _ _ h => h) (Or.inl ⟨by kernel_rfl, ?_⟩) hS ?_
              rotate_left
              · intro wz ⟨_, _⟩; go_simp; try with_reducible rfl
              refine wpAnyH_take (i := 7) (v := ?_) rfl (by kernel_rfl) (by kernel_rfl) (by kernel_rfl) (fun _ _ _ h => h) (Or.inl ⟨by kernel_rfl, ?_⟩) hS ?_
              rotate_left
              · intro wz ⟨_, _⟩; go_simp; try with_reducible rfl
              refine wpAnyH_take (i := 8) (v := ?_) rfl (by kernel_rfl) (by kernel_rfl) (by kernel_rfl) (fun _ _ _ h => h) (Or.inl ⟨by kernel_rfl, ?_⟩) hS ?_
              rotate_left
              · intro wz ⟨_, _⟩; go_simp; try with_reducible rfl
              refine wpAnyH_take (i := 9) (v := ?_) rfl (by kernel_rfl) (by kernel_rfl) (by kernel_rfl) (fun _ _ _ h => h) (Or.inl ⟨by kernel_rfl, ?_⟩) hS ?_
              rotate_left
              · intro wz ⟨_, _⟩; go_simp; try with_reducible rfl
              refine wpAnyH_take (i := 10) (v := ?_) rfl (by kernel_rfl) (by kernel_rfl) (by kernel_rfl) (fun _ _ _ h => h) (Or.inl ⟨by kernel_rfl, ?_⟩) hS ?_
              rotate_left
              · intro wz ⟨_, _⟩; go_simp; try with_reducible rfl
              refine wpAnyH_take (i := 11) (v := ?_) rfl (by kernel_rfl) (by kernel_rfl) (by kernel_rfl) (fun _ _ _ h => h) (Or.inl ⟨by kernel_rfl, ?_⟩) hS ?_
              rotate_left
              · intro wz ⟨_, _⟩; go_simp; try with_reducible rfl
              refine wpAnyH_take (i := 12) (v := ?_) rfl (by kernel_rfl) (by kernel_rfl) (by kernel_rfl) (fun _ _ _ h => h) (Or.inl ⟨by kernel_rfl, ?_⟩) hS ?_
              rotate_left
              · intro wz ⟨_, _⟩; go_simp; try with_reducible rfl
              refine wpAnyH_take (i := 15) (v := ?_) rfl (by kernel_rfl) (by kernel_rfl) (by kernel_rfl) (fun _ _ _ h => h) (Or.inl ⟨by kernel_rfl, ?_⟩) hS ?_
              rotate_left
              · intro wz ⟨_, _⟩; go_simp; try with_reducible rfl
              refine wpAnyH_take (i := 16) (v := ?_) rfl (by kernel_rfl) (by kernel_rfl) (by kernel_rfl) (fun _ _ _ h => h) (Or.inl ⟨by kernel_rfl, ?_⟩) hS ?_
              rotate_left
              · intro wz ⟨_, _⟩; go_simp; try with_reducible rfl
              refine wpAnyH_take (i := 17) (v := ?_) rfl (by kernel_rfl) (by kernel_rfl) (by kernel_rfl) (fun _ _ _ h => h) (Or.inl ⟨by kernel_rfl, ?_⟩) hS ?_
              rotate_left
              · intro wz ⟨_, _⟩; go_simp; try with_reducible rfl
              refine wpAnyH_take (i := 18) (v := ?_) rfl (by kernel_rfl) (by kernel_rfl) (by kernel_rfl) (fun _ _ _ h => h) (Or.inl ⟨by kernel_rfl, ?_⟩) hS ?_
              rotate_left
              · intro wz ⟨_, _⟩; go_simp; try with_reducible rfl
              refine wpAnyH_take (i := 19) (v := ?_) rfl (by kernel_rfl) (by kernel_rfl) (by kernel_rfl) (fun _ _ _ h => h) (Or.inl ⟨by kernel_rfl, ?_⟩) hS ?_
              rotate_left
              · intro wz ⟨_, _⟩; go_simp; try with_reducible rfl
              clear c0 c1
              refine held_do (i := 13) (.slice (some ⟨wr.heap.size, 0, none⟩) 2 2) (wr.drew.alloc (.cells #[.int .u64 ft, .int .u64 (fn : Int)] 40 (0, 0))) rfl (by kernel_rfl) (by kernel_rfl) (by kernel_rfl) ?_ ?_
              · exact HCE.out _ (HKJ.out.drew.alloc HKJ.out.size (.cells #[.int .u64 ft, .int .u64 (fn : Int)] 40 (0, 0)))
              have HOA := Lib.hid (Bo.alloc' (show Bo w.heap.size wr.drew a' zs.length cap' zs from ⟨HOJ.out.1, HOJ.out.2.drew⟩) (.cells #[.int .u64 ft, .int .u64 (fn : Int)] 40 (0, 0)))
              refine held_call (i := 14) 18 #[.slice a' zs.length cap', .slice (some ⟨wr.heap.size, 0, none⟩) 2 2] rfl (by kernel_rfl) (by kernel_rfl) (by kernel_rfl) ?_
              refine (put_own w.heap.size a' zs.length cap' zs _ 2 2 [ft, (fn : Int)] _ HOA.out (Uv.two wr.drew _ _ _ ht0 ht1 (by omega) (by omega)) (by show _ ≤ (wr.drew.alloc (.cells #[.int .u64 ft, .int .u64 (fn : Int)] 40 (0, 0))).heap.size; rw [World.size_alloc]; have : wr.drew.heap.size = wr.heap.size := rfl; have := HKJ.out.size; omega) (fun _ b hb h => by have := (HOJ.out.ge b h.2).2; simp at hb; omega) (by omega) (by omega)).mono ?_
              rintro e w3 ⟨a3, n3, c3, rfl, ho3, hk3, hn3⟩
              have HK3 := Lib.hid (Keeps.mine_below (HKJ.out.drew.alloc HKJ.out.size (.cells #[.int .u64 ft, .int .u64 (fn : Int)] 40 (0, 0))) hk3 (by show _ ≤ (wr.drew.alloc (.cells #[.int .u64 ft, .int .u64 (fn : Int)] 40 (0, 0))).heap.size; rw [World.size_alloc]; have : wr.drew.heap.size = wr.heap.size := rfl; have := HKJ.out.size; omega) (Nat.le_refl _))
              rw [hx.out] at ho3
              have HO3 := Lib.hid ho3
              have HFB3 := Lib.hid (HFB.out w3 HK3.out)
              have hn3e : n3 = (zs ++ varsE [ft, (fn : Int)]).length := ho3.1
              have HN3 := Lib.hid hn3e
              have hvl := varsE_two ft (fn : Int)
              have hn3b : n3 ≤ zs.length + 16 := by rw [hn3e, List.length_append]; omega
              clear ho3 hk3 hn3 hn3e hvl hS
              have hS : (fun w' : World => w'.cell? ⟨b3, off3 + j * 2, none⟩ = some (.int .u64 ft) ∧ w'.cell? ⟨b3, off3 + j * 2 + 1, none⟩ = some (.slice fa fn fcap)) w3 := HCE.out w3 HK3.out
              refine ⟨_, rfl, hS, ?_⟩
              obtain ⟨i0, hi0, hz0, hz1, hz2⟩ := info_parts info8
              refine held_app (i := 20) rfl (by kernel_rfl) (by kernel_rfl) (.tmp 52) (.tmp 57) 25 25 rfl w.heap.size 5 i0 _ 1 1 Try.underlying25 hi0 hz0 hz1 hz2 rfl a3 n3 c3 (Bs (zs ++ varsE [ft, (fn : Int)])) (by kernel_rfl) (.inl HO3.out.2) (.slice fa fn fcap) (by kernel_rfl) fxs.length (Bs fxs) (by have h := HFB3.out.2.src Try.underlying25 (Bs_one fxs); rw [HFN.out] at h ⊢; exact h) (by unfold maxLen; have := HFN.out; omega) (by have := HFN.out; omega) HK3.out.size ?_
              intro a4 c4 w4 _ hk4 _ hown4 hnil4
              have hbo : Bo w.heap.size w4 a4 (n3 + fxs.length) c4 (zs ++ varsE [ft, (fn : Int)] ++ fxs) := by
                by_cases h0 : fxs.length = 0
                · obtain ⟨rfl, rfl, rfl⟩ := hnil4 h0
                  obtain rfl : fxs = [] := List.eq_nil_of_length_eq_zero h0
                  simpa using HO3.out
                · refine ⟨by rw [List.length_append, ← HN3.out], ?_⟩
                  have h := hown4 (by omega)
                  rwa [Bs_append] at h
              have HO4 := Lib.hid hbo
              have HK4 := Lib.hid (Keeps.mine_below HK3.out hk4 HK3.out.size (Nat.le_refl _))
              clear hk4 hown4 hnil4 hbo hS hi0 hz0 hz1 hz2
              have hS : (fun w' : World => w'.cell? ⟨b3, off3 + j * 2, none⟩ = some (.int .u64 ft) ∧ w'.cell? ⟨b3, off3 + j * 2 + 1, none⟩ = some (.slice fa fn fcap)) w4 := HCE.out w4 HK4.out
              refine ⟨hS, ?_⟩
              refine wpAnyH_take (i := 21) (v := ?_) rfl (by kernel_rfl) (by kernel_rfl) (by kernel_rfl) (fun _ _ _ h => h) (Or.inl ⟨by kernel_rfl, ?_⟩) hS ?_
              rotate_left
              · intro wz ⟨_, _⟩; go_simp; try with_reducible rfl
              refine wpAnyH_done (by kernel_rfl) ?_ _
              clear hS
              go_wp2_with fail
              obtain ⟨k', rfl⟩ : ∃ k', go = k' + 1 := ⟨go - 1, by have := HI.out; omega⟩
              go_roundg k'
              case measure => omega
              case rel =>
                have hfe : frE l[j] = varsE [ft, (fn : Int)] ++ fxs := by rw [HF.out]; exact HFE.out
                have hnl : n3 + fxs.length = (zs ++ frE l[j]).length := by rw [hfe, HN3.out]; simp; omega
                refine ⟨j + 1, a4, c4, zs ++ frE l[j], by have := HI.out; omega, by go_num, by rw [← hnl], frsOK_step hix HOK.out (by rw [HF.out]; exact HOV.out), by rw [HTK.out]; exact nodup_add HND.out HNO.out, by have e := frsE_step hix []; simp only [List.nil_append] at e; rw [e, ← HZ.out], ?_, ?_, HK4.out⟩
                · rw [← hnl]; have := HFN.out; omega
                · rw [← hnl, hfe, ← List.append_assoc]; exact HO4.out
      · have hik2 : i = m2 := by have := HI.out; omega
        have HGOOD : Hid (paR l = frsE l ∧ paErr l = 0) := by
          refine pa_good (pa_all (by rw [← HM.out]; omega) ?_ ?_)
          · have := HND.out
            rwa [hik2, HM.out, List.take_length] at this
          · have := HOK.out
            rwa [hik2, HM.out, List.take_length] at this
        have HE2 : Hid (zs = frsE l) := by
          have := HZ.out
          rw [hik2, HM.out, List.take_length] at this
          exact this
        clear hik2
        go_wp2_with fail
        go_returns
        rw [HGOOD.out.1, HGOOD.out.2, ← HE2.out]
        exact ⟨a', zs.length, cap', rfl, HO.out, HK.out⟩

end Go.Proofs.Ytabdoikfcaiobaa
