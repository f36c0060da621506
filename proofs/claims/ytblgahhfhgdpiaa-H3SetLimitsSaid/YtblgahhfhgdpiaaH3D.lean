/- Settings of the packages bifoldref26 and h3frame. -/
import Derived.Test.YtblgahhfhgdpiaaH3C
import Derived.Test.YtblgahhfhgdpiaaOwn
import Derived.Deep.RegionWith
import Derived.Deep.RegionHeld3
import Derived.Deep.DeepCutAuto
namespace Go.Proofs.Ytblgahhfhgdpiaa
open Go.RowKit Go.Deep

/-- What the walk wants of a frame's block that it writes whole: its cells, that none is frozen, and its cells behind the stores. -/
theorem frame_cells {w : World} {b : Nat} {u v : Value} {t : TypeId} (h : Blk w b #[u, v] t) (x y : Value) :
    w.cell? ⟨b, 0, none⟩ = some u ∧ w.cell? ⟨b, 1, none⟩ = some v ∧ w.frozen? ⟨b, 0, none⟩ = false ∧ w.frozen? ⟨b, 1, none⟩ = false ∧
    (w.setCell ⟨b, 0, none⟩ x).cell? ⟨b, 0, none⟩ = some x ∧ ((w.setCell ⟨b, 0, none⟩ x).setCell ⟨b, 1, none⟩ y).cell? ⟨b, 1, none⟩ = some y := by
  refine ⟨by rw [h.cell]; rfl, by rw [h.cell]; rfl, h.free 0, h.free 1, by rw [(h.set 0 x).cell]; rfl, by rw [((h.set 0 x).set 1 y).cell]; rfl⟩

/-- What settings are written as; which may be said. -/
def setE (l : List (Int × Int)) : List UInt8 := l.flatMap fun p => varsE [p.1, p.2]
def setOK (l : List (Int × Int)) : Bool := l.all fun p => varsOK [p.1, p.2]
def setTwice (l : List (Int × Int)) : Bool := !decide ((l.map (·.1)).Nodup)
def setBad (l : List (Int × Int)) : Bool := decide (32 < l.length) || setTwice l
def setErr (l : List (Int × Int)) : Int := if setBad l then 34 else if setOK l then 0 else 21
def setT (l : List (Int × Int)) : Int := if setErr l = 0 then 4 else 0
def setB (l : List (Int × Int)) : List UInt8 := if setErr l = 0 then setE l else []

theorem twice_of {l : List (Int × Int)} {i k : Nat} (hk : k < i) (hi : i < l.length) (h : l[k].1 = l[i].1) : setTwice l = true := by
  unfold setTwice
  simp only [Bool.not_eq_true', decide_eq_false_iff_not]
  intro hn
  have := (List.pairwise_iff_getElem.1 hn) k i (by simp; omega) (by simpa using hi) hk
  simp at this
  exact this h
theorem err_bad {l : List (Int × Int)} (h : setBad l = true) : setErr l = 34 ∧ setT l = 0 ∧ setB l = [] := by
  have e : setErr l = 34 := by unfold setErr; rw [if_pos h]
  unfold setT setB
  rw [e]
  exact ⟨rfl, rfl, rfl⟩
theorem nodup_step {l : List (Int × Int)} {i : Nat} (hi : i < l.length) (h : ((l.take i).map (·.1)).Nodup) (hall : ∀ x ∈ l.take i, x.1 ≠ l[i].1) : ((l.take (i + 1)).map (·.1)).Nodup := by
  rw [List.take_succ_eq_append_getElem hi, List.map_append, List.nodup_append]
  refine ⟨h, by simp, fun x hx y hy => ?_⟩
  simp at hy
  subst hy
  obtain ⟨p, hp, rfl⟩ := List.mem_map.1 hx
  exact hall p hp

/-- Vars of the reference on a row of one's own, of a row that has just been made. -/
theorem varsr_o (base : Nat) (a : Option Addr) (m cap : Nat) (xs : List UInt8) (g m2 cap2 : Nat) (vs : List Int) (w : World) (hd : Bo base w a m cap xs) (hv : Uv w (some ⟨g, 0, none⟩) m2 cap2 vs) (hbase : base ≤ w.heap.size)
    (hne : ∀ b, a.map (·.block) = some b → b ≠ g) (hl : m ≤ 1000000000) (hl2 : m2 ≤ 1000000000) :
    Calls Try.prog 14 #[.slice a m cap, .slice (some ⟨g, 0, none⟩) m2 cap2] w fun e w' => ∃ a' n' cap', e = .returned (.tuple #[.slice a' n' cap', .int .i64 (varsErr vs)]) ∧ Bo base w' a' n' cap' (varsR xs vs) ∧ Below base w w' := by
  refine (varsr_own base a m cap xs _ m2 cap2 vs w hd hv hbase (fun _ b hb h => hne b h.2 (by simpa using hb.symm)) hl hl2).mono ?_
  rintro e w' ⟨a', n', c', rfl, h1, h2, _⟩
  exact ⟨a', n', c', rfl, h1, Keeps.mine_below (Below.refl _ _) h2 hbase (Nat.le_refl _)⟩

theorem setE_step {l : List (Int × Int)} {j : Nat} (hj : j < l.length) : setE (l.take (j + 1)) = setE (l.take j) ++ varsE [l[j].1, l[j].2] := by
  unfold setE
  rw [List.take_succ_eq_append_getElem hj, List.flatMap_append]
  simp
theorem setOK_step {l : List (Int × Int)} {j : Nat} (hj : j < l.length) (h : setOK (l.take j) = true) (h2 : varsOK [l[j].1, l[j].2] = true) : setOK (l.take (j + 1)) = true := by
  unfold setOK at *
  rw [List.take_succ_eq_append_getElem hj, List.all_append, h]
  simpa using h2
theorem setOK_not {l : List (Int × Int)} {j : Nat} (hj : j < l.length) (h2 : varsOK [l[j].1, l[j].2] = false) : setOK l = false := by
  unfold setOK
  rw [List.all_eq_false]
  exact ⟨l[j], List.getElem_mem hj, by simp [h2]⟩
theorem not_bad {l : List (Int × Int)} (h : ¬ 32 < l.length) (hn : (l.map (·.1)).Nodup) : setBad l = false := by
  unfold setBad setTwice
  simp only [hn, decide_true, Bool.not_true, Bool.or_false, decide_eq_false_iff_not]
  exact h
theorem err_num {l : List (Int × Int)} (h : setBad l = false) (hk : setOK l = false) : setErr l = 21 ∧ setT l = 0 ∧ setB l = [] := by
  have e : setErr l = 21 := by unfold setErr; rw [h, hk]; rfl
  unfold setT setB
  rw [e]
  exact ⟨rfl, rfl, rfl⟩
theorem err_none {l : List (Int × Int)} (h : setBad l = false) (hk : setOK l = true) : setErr l = 0 ∧ setT l = 4 ∧ setB l = setE l := by
  have e : setErr l = 0 := by unfold setErr; rw [h, hk]; rfl
  unfold setT setB
  rw [e]
  exact ⟨rfl, rfl, rfl⟩

set_option maxHeartbeats 3200000 in
theorem setr_any (a : Option Addr) (n cap : Nat) (l : List (Int × Int)) (w : World) (hv : ∀ w', Below w.heap.size w w' → Sv w' a n cap l) :
    Calls Try.prog 19 #[.slice a n cap] w fun e w' => ∃ a' n' cap', e = .returned (.tuple #[.agg #[.int .u64 (setT l), .slice a' n' cap'], .int .i64 (setErr l)]) ∧ Bo w.heap.size w' a' n' cap' (setB l) ∧ Below w.heap.size w w' := by
  have hv0 := hv w (Below.refl _ _)
  have hcap := hv0.2.1.le
  have hmax := hv0.2.1.max
  unfold maxLen at hmax
  have HV := Lib.hid hv
  have HN := Lib.hid hv0.1
  clear hv hv0
  by_cases h32 : 32 < n
  · have HBAD := Lib.hid (err_bad (l := l) (by unfold setBad; rw [← HN.out]; simp [h32]))
    go_enter Try.func19, Try.ntmps19
    go_wp2_with fail
    go_returns
    rw [HBAD.out.1, HBAD.out.2.1, HBAD.out.2.2]
    exact ⟨none, 0, 0, rfl, Bo.nil _ _, ((Below.refl _ _).alloc (Nat.le_refl _) _).alloc (by simp) _⟩
  · go_enter Try.func19, Try.ntmps19
    go_wp2_with fail
    have b0 : Blk ((w.alloc (.cells #[.int .u64 0, .slice none 0 0] 33 (0, 0))).alloc (.cells #[.int .u64 4, .slice none 0 0] 33 (0, 0))) w.heap.size #[.int .u64 0, .slice none 0 0] 33 := (Blk.new w _ _).alloc _
    have b1 : Blk ((w.alloc (.cells #[.int .u64 0, .slice none 0 0] 33 (0, 0))).alloc (.cells #[.int .u64 4, .slice none 0 0] 33 (0, 0))) (w.heap.size + 1) #[.int .u64 4, .slice none 0 0] 33 := by
      have := Blk.new (w.alloc (.cells #[.int .u64 0, .slice none 0 0] 33 (0, 0))) #[.int .u64 4, .slice none 0 0] 33
      rwa [World.size_alloc] at this
    have hbel : Below w.heap.size w ((w.alloc (.cells #[.int .u64 0, .slice none 0 0] 33 (0, 0))).alloc (.cells #[.int .u64 4, .slice none 0 0] 33 (0, 0))) := ((Below.refl _ _).alloc (Nat.le_refl _) _).alloc (by simp) _
    have hsize : ((w.alloc (.cells #[.int .u64 0, .slice none 0 0] 33 (0, 0))).alloc (.cells #[.int .u64 4, .slice none 0 0] 33 (0, 0))).heap.size = w.heap.size + 2 := by simp
    generalize (w.alloc (.cells #[.int .u64 0, .slice none 0 0] 33 (0, 0))).alloc (.cells #[.int .u64 4, .slice none 0 0] 33 (0, 0)) = W0 at *
    have B0 := Lib.hid b0
    have B1 := Lib.hid b1
    have HBEL := Lib.hid hbel
    have HSZ := Lib.hid hsize
    clear b0 b1 hbel hsize
    go_loopg [5] n (fun k vi wr => ∃ (i : Nat), k + i = n ∧ vi = .int .i64 i ∧ ((l.take i).map (·.1)).Nodup ∧ ∃ q, wr = W0.drewN q)
    case atStart => exact ⟨0, by omega, rfl, by simp, 0, rfl⟩
    case round =>
      obtain ⟨i, hi, rfl, ht, q, rfl⟩ := hrel
      have HI := Lib.hid hi
      have HT := Lib.hid ht
      clear hi ht
      by_cases hik : i < n
      · have hix : i < l.length := by have := HN.out; omega
        obtain ⟨bb, oo, rfl, hbb, hcell⟩ := (HV.out W0 HBEL.out).get (by omega)
        have p1 := (hcell i hix).1
        have HC := Lib.hid hcell
        clear hcell
        go_wp2_with fail
        go_loopg [6] i (fun g vk wr => ∃ (k : Nat), g + k = i ∧ vk = .int .i64 k ∧ (∀ x ∈ l.take k, x.1 ≠ l[i].1) ∧ ∃ q, wr = W0.drewN q)
        case atStart => exact ⟨0, by omega, rfl, by simp, q, rfl⟩
        case round =>
          obtain ⟨k, hk, rfl, hall, q2, rfl⟩ := hrel
          have HKK := Lib.hid hk
          have HALL := Lib.hid hall
          clear hk hall
          by_cases hki : k < i
          · have hkx : k < l.length := by omega
            have p2 := (HC.out k hkx).1
            by_cases heq : l[k].1 = l[i].1
            · obtain ⟨z1, z2, z3, z4, z5, z6⟩ := frame_cells (B0.out.drewN (q2 + 1)) (.int .u64 0) (.slice none 0 0)
              go_wp2_with fail
              go_region
              go_wp2_with fail
              have HBAD := Lib.hid (err_bad (l := l) (by unfold setBad; rw [twice_of hki hix heq]; simp))
              (try simp only [Exit.inBlock, Exit.then])
              refine bodyPost_ret (by simp [results, Try.results19, go_sem, z5, z6]; try rfl) rfl ?_
              rw [HBAD.out.1, HBAD.out.2.1, HBAD.out.2.2]
              exact ⟨none, 0, 0, rfl, Bo.nil _ _, ((Below.drewN' HBEL.out (q2 + 1)).setCell (Nat.le_refl _) _).setCell (Nat.le_refl _) _⟩
            · go_wp2_with fail
              go_region
              go_wp2_with fail
              obtain ⟨g', rfl⟩ : ∃ g', gk = g' + 1 := ⟨gk - 1, by have := HKK.out; omega⟩
              go_roundg g'
              case measure => omega
              case rel =>
                refine ⟨k + 1, by have := HKK.out; omega, by go_num, fun x hx => ?_, q2 + 1, rfl⟩
                rw [List.take_succ_eq_append_getElem hkx, List.mem_append] at hx
                rcases hx with hx | hx
                · exact HALL.out x hx
                · simp at hx
                  subst hx
                  exact heq
          · have hki2 : k = i := by have := HKK.out; omega
            have HALLi : Hid (∀ x ∈ l.take i, x.1 ≠ l[i].1) := fun x hx => HALL.out x (by rw [hki2]; exact hx)
            clear hki2
            go_wp2_with fail
            obtain ⟨g', hg'⟩ : ∃ g', n - i = g' + 1 := ⟨n - i - 1, by omega⟩
            go_roundg g'
            case measure => have := HI.out; omega
            case rel => exact ⟨i + 1, by omega, by go_num, nodup_step hix HT.out HALLi.out, q2, rfl⟩
      · go_wp2_with fail
        have hil : i = n := by have := HI.out; omega
        have HND : Hid ((l.map (·.1)).Nodup) := by have h := HT.out; rwa [List.take_of_length_le (by have := HN.out; omega)] at h
        clear hil
        go_loopg [7] n (fun g vi wr => ∃ (j : Nat) (a' : Option Addr) (cap' : Nat) (zs : List UInt8), g + j = n ∧ vi = .int .i64 j ∧ setOK (l.take j) = true ∧ zs = setE (l.take j) ∧ zs.length ≤ 16 * j ∧ Bo (w.heap.size + 2) wr a' zs.length cap' zs ∧ Below w.heap.size w wr ∧ Blk wr w.heap.size #[.int .u64 0, .slice none 0 0] 33 ∧ Blk wr (w.heap.size + 1) #[.int .u64 4, .slice a' zs.length cap'] 33 ∧ w.heap.size + 2 ≤ wr.heap.size)
        case atStart => exact ⟨0, none, 0, [], by omega, rfl, rfl, by simp [setE], by simp, Bo.nil _ _, Below.drewN' HBEL.out q, B0.out.drewN q, B1.out.drewN q, by show _ ≤ W0.heap.size; rw [HSZ.out]; omega⟩
        case round =>
          obtain ⟨j, a2, c2, zs, hj, rfl, hok, hz, hlen, ho, hk, hb0, hb1, hsz⟩ := hrel
          have HJ := Lib.hid hj
          have HOK := Lib.hid hok
          have HZ := Lib.hid hz
          have HO := Lib.hid ho
          have HK := Lib.hid hk
          have HB0 := Lib.hid hb0
          have HB1 := Lib.hid hb1
          clear hj hok hz ho hk hb0 hb1
          by_cases hjn : j < n
          · have hjx : j < l.length := by have := HN.out; omega
            have hsv := HV.out wr HK.out
            obtain ⟨⟨hu0, hu1⟩, hv0, hv1⟩ := hsv.2.2 l[j] (List.getElem_mem hjx)
            obtain ⟨bb, oo, rfl, hbb, hcell⟩ := hsv.get (by omega)
            obtain ⟨p1, p2⟩ := hcell j hjx
            clear hcell hsv
            obtain ⟨z1, z2, z3, z4, -, -⟩ := frame_cells HB1.out (.int .u64 4) (.slice none 0 0)
            have nn1 := World.new_ne wr _ z2
            have nn2 := World.new_ne wr _ p1
            have nn3 := World.new_ne wr _ p2
            have r1 : wr.drew.cell? ⟨bb, oo + j * 2, none⟩ = some (.int .u64 l[j].1) := p1
            have r2 : wr.drew.cell? ⟨bb, oo + j * 2 + 1, none⟩ = some (.int .u64 l[j].2) := p2
            have HNE : Hid (∀ b, a2.map (·.block) = some b → b ≠ wr.heap.size) := by
              show ∀ b, _
              intro b hb
              have := (HO.out.ge b hb).2
              omega
            have HOD : Hid (Bo (w.heap.size + 2) (wr.alloc (.cells #[.int .u64 l[j].1, .int .u64 l[j].2] 31 (0, 0))).drew a2 zs.length c2 zs) := HO.out.keep (((Keeps.refl (fun _ => False) wr).alloc _).drew) (fun _ _ h => h)
            have hu := Uv.two wr 31 l[j].1 l[j].2 hu0 hu1 hv0 hv1
            have HUD : Hid (Uv (wr.alloc (.cells #[.int .u64 l[j].1, .int .u64 l[j].2] 31 (0, 0))).drew (some ⟨wr.heap.size, 0, none⟩) 2 2 [l[j].1, l[j].2]) := ⟨hu.1, hu.2.1.drew, hu.2.2⟩
            have hszd : w.heap.size + 2 ≤ (wr.alloc (.cells #[.int .u64 l[j].1, .int .u64 l[j].2] 31 (0, 0))).drew.heap.size := by show _ ≤ (wr.alloc _).heap.size; simp; omega
            have HB1D : Hid (Blk (wr.alloc (.cells #[.int .u64 l[j].1, .int .u64 l[j].2] 31 (0, 0))).drew (w.heap.size + 1) #[.int .u64 4, .slice a2 zs.length c2] 33) := (HB1.out.alloc _).drew
            clear hu
            obtain ⟨b9, o9, hae, hbw, -⟩ := (HV.out w (Below.refl _ _)).get (by omega)
            cases hae
            have nn4 : bb ≠ w.heap.size + 1 := by omega
            have nn5 : w.heap.size + 1 ≠ bb := by omega
            have z2d : wr.drew.cell? ⟨w.heap.size + 1, 1, none⟩ = some (.slice a2 zs.length c2) := z2
            have z2e := (frame_cells HB1D.out (.int .u64 4) (.slice none 0 0)).2.1
            go_upto_region 16 with fail
            go_cut [8] (fun s8 wx => ∃ (a3 : Option Addr) (n3 c3 : Nat), s8 = .int .i64 (varsErr [l[j].1, l[j].2]) ∧ Bo (w.heap.size + 2) wx a3 n3 c3 (varsR zs [l[j].1, l[j].2]) ∧ Below w.heap.size w wx ∧ Blk wx w.heap.size #[.int .u64 0, .slice none 0 0] 33 ∧ Blk wx (w.heap.size + 1) #[.int .u64 4, .slice a3 n3 c3] 33 ∧ w.heap.size + 2 ≤ wx.heap.size)
            case first =>
              go_region_with (go_at_call 14; refine (varsr_o (w.heap.size + 2) a2 zs.length c2 zs _ 2 2 [l[j].1, l[j].2] _ HOD.out HUD.out hszd HNE.out (by omega) (by omega)).mono ?_; rintro e w3 ⟨a3, n3, c3, rfl, ho3, hk3⟩; have y := (Below.keeps hk3).blk HB1D.out (by omega); obtain ⟨y1, y2, y3, y4, y5, y6⟩ := frame_cells y (.int .u64 4) (.slice a3 n3 c3))
              all_goals (
                have x0 := ((Below.keeps hk3).blk ((HB0.out.alloc (.cells #[.int .u64 l[j].1, .int .u64 l[j].2] 31 (0, 0))).drew) (by omega)).set_ne (a := ⟨w.heap.size + 1, 1, none⟩) (by show _ ≠ _; simp) (.slice a3 n3 c3)
                have X0 := Lib.hid x0
                have X1 := Lib.hid (y.set 1 (.slice a3 n3 c3))
                have HK3 := Lib.hid (((HK.out.alloc (by omega) _).drew.trans (hk3.mono (by omega))).setCell (p := ⟨w.heap.size + 1, 1, none⟩) (by show w.heap.size ≤ w.heap.size + 1; omega) (.slice a3 n3 c3))
                have HO3 := Lib.hid (ho3.keep (Keeps.put (b := w.heap.size + 1) (Keeps.refl _ w3) 1 (.slice a3 n3 c3)) (fun b hb e => by have := (ho3.ge b hb).1; omega))
                have HS3 : Hid (w.heap.size + 2 ≤ (w3.setCell ⟨w.heap.size + 1, 1, none⟩ (.slice a3 n3 c3)).heap.size) := by show _ ≤ _; have := hk3.size; rw [World.size_setCell]; omega
                go_wp2_with fail
                go_meet
                exact ⟨a3, n3, c3, rfl, HO3.out, HK3.out, X0.out, X1.out, HS3.out⟩)
            case rest =>
              obtain ⟨a3, n3, c3, rfl, ho3, hk3, x0, x1, hs3⟩ := hcut
              have HO3 := Lib.hid ho3
              have HK3 := Lib.hid hk3
              have X0 := Lib.hid x0
              have X1 := Lib.hid x1
              have HS3 := Lib.hid hs3
              clear ho3 hk3 x0 x1 hs3
              by_cases hov : varsOK [l[j].1, l[j].2] = true
              · have he : varsErr [l[j].1, l[j].2] = 0 := by unfold varsErr; rw [hov]; rfl
                have hx : Hid (varsR zs [l[j].1, l[j].2] = zs ++ varsE [l[j].1, l[j].2]) := by show _ = _; unfold varsR; rw [hov, if_pos rfl]
                have HOV := Lib.hid hov
                rw [he]
                clear he hov
                go_wp2_with fail
                obtain ⟨k', rfl⟩ : ∃ k', gk = k' + 1 := ⟨gk - 1, by have := HJ.out; omega⟩
                go_roundg k'
                case measure => omega
                case rel =>
                  have hvl := varsE_two l[j].1 l[j].2
                  have hn3 : n3 = (zs ++ varsE [l[j].1, l[j].2]).length := by have := HO3.out.1; rwa [hx.out] at this
                  refine ⟨j + 1, a3, c3, zs ++ varsE [l[j].1, l[j].2], by have := HJ.out; omega, by go_num, setOK_step hjx HOK.out HOV.out, by rw [setE_step hjx, ← HZ.out], by rw [List.length_append]; omega, ?_, HK3.out, X0.out, ?_, HS3.out⟩
                  · have h := HO3.out; rw [hx.out] at h; rw [← hn3]; exact h
                  · have h := X1.out; rw [← hn3]; exact h
              · have he : varsErr [l[j].1, l[j].2] = 21 := by unfold varsErr; rw [if_neg hov]
                have HE := Lib.hid (err_num (not_bad (by rw [← HN.out]; exact h32) HND.out) (setOK_not hjx (by simpa using hov)))
                rw [he]
                clear he hov
                obtain ⟨z1, z2, z3, z4, z5, z6⟩ := frame_cells X0.out (.int .u64 0) (.slice none 0 0)
                go_wp2_with fail
                (try simp only [Exit.inBlock, Exit.then])
                refine bodyPost_ret (by simp [results, Try.results19, go_sem, z5, z6]; try rfl) rfl ?_
                rw [HE.out.1, HE.out.2.1, HE.out.2.2]
                exact ⟨none, 0, 0, rfl, Bo.nil _ _, (HK3.out.setCell (Nat.le_refl _) _).setCell (Nat.le_refl _) _⟩
          · have hjl : j = n := by have := HJ.out; omega
            have HE := Lib.hid (err_none (not_bad (by rw [← HN.out]; exact h32) HND.out) (by have h := HOK.out; rwa [hjl, HN.out, List.take_length] at h))
            have HZ2 : Hid (zs = setE l) := by have h := HZ.out; rwa [hjl, HN.out, List.take_length] at h
            clear hjl
            obtain ⟨x1, x2, x3, x4, -, -⟩ := frame_cells HB1.out (.int .u64 0) (.slice none 0 0)
            obtain ⟨z1, z2, z3, z4, z5, z6⟩ := frame_cells HB0.out (.int .u64 4) (.slice a2 zs.length c2)
            go_wp2_with fail
            (try simp only [Exit.inBlock, Exit.then])
            refine bodyPost_ret (by simp [results, Try.results19, go_sem, z5, z6]; try rfl) rfl ?_
            rw [HE.out.1, HE.out.2.1, HE.out.2.2]
            refine ⟨a2, zs.length, c2, rfl, ?_, (HK.out.setCell (Nat.le_refl _) _).setCell (Nat.le_refl _) _⟩
            rw [← HZ2.out]
            refine (HO.out.mono (by omega)).keep (((Keeps.refl (fun k => k = w.heap.size) _).put 0 _).put 1 _) (fun b hb e => ?_)
            have := (HO.out.ge b hb).1
            omega

end Go.Proofs.Ytblgahhfhgdpiaa
