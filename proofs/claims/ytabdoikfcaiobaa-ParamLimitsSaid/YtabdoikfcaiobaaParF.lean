/- Read of the package qparam: the walk. -/
import Derived.Test.YtabdoikfcaiobaaParE
namespace Go.Proofs.Ytabdoikfcaiobaa
open Go.RowKit Go.Deep Go.Maps

def RdP (w : World) (r : Option (List (Int × List UInt8))) (e : Ending) (w' : World) : Prop :=
  Below w.heap.size w w' ∧ match r with
  | none => e = .returned (.tuple #[.slice none 0 0, .int .i64 41])
  | some out => ∃ a' cap' l, e = .returned (.tuple #[.slice a' l.length cap', .int .i64 0]) ∧ prsL l = out ∧ Po w.heap.size w' a' cap' l

theorem prsL_ids (l : List Fr) : (prsL l).map (·.1) = idL l := by simp [prsL, idL]
theorem prsL_length (l : List Fr) : (prsL l).length = l.length := by simp [prsL]

set_option maxHeartbeats 3200000 in
theorem qread_any (a : Option Addr) (m cap : Nat) (xs : List UInt8) (w : World) (hb : By w a m cap xs) (hl : m ≤ 1000000000) (hlt : ∀ b, a.map (·.block) = some b → b < w.heap.size) :
    Calls Try.prog 10 #[.slice a m cap] w (RdP w (rdR xs)) := by
  have HLT := Lib.hid hlt
  have HX := Lib.hid hb.1
  have HBK := Lib.hid (hb.alloc (.map #[] 0))
  have HR : Hid (rdT (m + 1) xs (prsL []) = rdR xs) := Lib.hid (by rw [hb.1]; rfl)
  clear hlt hb
  generalize rdR xs = r at *
  have hmm := @run_makeMap Try.prog
  have M0 := Lib.hid (Mp.made w)
  go_enter Try.func10, Try.ntmps10
  go_wp2_with fail
  clear hmm
  have HBEL := Lib.hid ((Below.refl w.heap.size w).alloc (Nat.le_refl _) (.map #[] 0))
  have HSZ : Hid ((w.alloc (.map #[] 0)).heap.size = w.heap.size + 1) := Lib.hid (by simp)
  generalize w.alloc (.map #[] 0) = W0 at *
  go_loopg [0, 4] m (fun k vb vo wr => ∃ (a1 : Option Addr) (m1 c1 : Nat) (ys : List UInt8) (ao : Option Addr) (co : Nat) (l : List Fr), vb = .slice a1 m1 c1 ∧ vo = .slice ao l.length co ∧ m1 ≤ k ∧ k ≤ 1000000000 ∧ By wr a1 m1 c1 ys ∧ a1.map (·.block) = a.map (·.block) ∧ l.length ≤ 32 ∧ Po (w.heap.size + 1) wr ao co l ∧ rdT (k + 1) ys (prsL l) = r ∧ Mp wr w.heap.size l.length (idN (idL l)) ∧ Below w.heap.size w wr ∧ w.heap.size + 1 ≤ wr.heap.size)
  case atStart => exact ⟨a, m, cap, xs, none, 0, [], rfl, rfl, Nat.le_refl _, hl, HBK.out, rfl, by simp, Po.nil _ _, HR.out, M0.out.as (fun x => by simp [idN, idL]), HBEL.out, by rw [HSZ.out]; omega⟩
  case round =>
    obtain ⟨a1, m1, c1, ys, ao, co, l, rfl, rfl, hm1, hk9, hby, hbl, hl32, hpo, hrd, hmp, hk, hsz⟩ := hrel
    have HBY := Lib.hid hby
    have HBL := Lib.hid hbl
    have HPO := Lib.hid hpo
    have HRD := Lib.hid hrd
    have HMP := Lib.hid hmp
    have HK := Lib.hid hk
    have HM1 := Lib.hid hby.1
    clear hby hbl hpo hrd hmp hk
    by_cases hpos : 0 < m1
    · obtain ⟨k', rfl⟩ : ∃ k', gk = k' + 1 := ⟨gk - 1, by omega⟩
      have hne : ys ≠ [] := by intro e; have := HM1.out; rw [e] at this; simp at this; omega
      have HNE := Lib.hid hne
      clear hne
      go_wp2_with fail
      refine (one_any a1 m1 c1 ys wr HBY.out (by omega) (fun b hb => by have := HLT.out b (by rw [← HBL.out]; exact hb); omega)).mono ?_
      rintro e w3 ⟨hk3, h3⟩
      have HK3 := Lib.hid (HK.out.trans (hk3.mono HK.out.size))
      have hsz3 : wr.heap.size ≤ w3.heap.size := hk3.size
      have HMP3 := Lib.hid (HMP.out.keep (Below.keeps hk3) (by omega))
      have HPO3 := Lib.hid (HPO.out.below hk3)
      clear hk3
      cases ho : oneR ys with
      | none =>
        rw [ho] at h3
        obtain rfl := h3
        have HEND : Hid (r = none) := Lib.hid (HRD.out.symm.trans (rdT_bad HNE.out ho))
        clear ho
        have hu0 : inU 0 := ⟨by decide, by decide⟩
        have HU := Lib.hid hu0
        clear hu0
        have hib := idN_bd (idL l) 0
        go_wp2_with (at_lookup; refine halt ?_)
        refine Halted.go (wpMp_lookup _ rfl _ _ rfl w.heap.size l.length (idN (idL l)) rfl (HMP3.out.alloc _) 0 rfl HU.out ?_)
        go_wp2_with (at_mapUpdate; refine halt ?_)
        refine Halted.go (wpMp_update _ rfl _ _ _ rfl w.heap.size l.length (idN (idL l)) rfl (HMP3.out.alloc _) (by omega) 0 (idN (idL l) 0 + 1) rfl HU.out rfl (by omega) (by omega) ?_)
        intro w4 _ hk4
        have HK4 := Lib.hid (Keeps.below (HK3.out.alloc (by omega) (.cells #[.int .u64 0, .slice none 0 0] 42 (0, 0))) hk4 (by simp; omega) (fun k hk => by omega))
        clear hk4
        go_wp2_with fail
        go_returns
        rw [HEND.out]
        exact ⟨HK4.out, rfl⟩
      | some q =>
        obtain ⟨t, bs, zs⟩ := q
        rw [ho] at h3
        obtain ⟨b1, n1, d1, b2, n2, d2, rfl, hbo, hbz, hbb⟩ := h3
        obtain ⟨hu, hbs, hzs⟩ := oneR_some ho
        have HO := Lib.hid ho
        have HBO := Lib.hid hbo
        have HBZ := Lib.hid hbz
        have HBB := Lib.hid (hbb.trans HBL.out)
        have HU := Lib.hid hu
        have hn2 : n2 < m1 := by have := HM1.out; have := hbz.1; omega
        clear ho hbo hbz hbb hu hbs hzs
        have hib := idN_bd (idL l) t
        go_wp2_with (at_lookup; refine halt ?_)
        refine Halted.go (wpMp_lookup _ rfl _ _ rfl w.heap.size l.length (idN (idL l)) rfl (HMP3.out.alloc _) t rfl HU.out ?_)
        go_wp2_with (at_mapUpdate; refine halt ?_)
        refine Halted.go (wpMp_update _ rfl _ _ _ rfl w.heap.size l.length (idN (idL l)) rfl (HMP3.out.alloc _) (by omega) t (idN (idL l) t + 1) rfl HU.out rfl (by omega) (by omega) ?_)
        intro w4 hm4 hk4
        have HS4 := Lib.hid (hk4.blk (Blk.new w3 #[.int .u64 t, .slice b1 n1 d1] 42) (by omega))
        have HM4 := Lib.hid hm4
        have HK4 := Lib.hid (Keeps.below (HK3.out.alloc (by omega) (.cells #[.int .u64 t, .slice b1 n1 d1] 42 (0, 0))) hk4 (by simp; omega) (fun k hk => by omega))
        have hsz4 : w3.heap.size + 1 ≤ w4.heap.size := by have := hk4.size; simp at this; omega
        have HPO4 := Lib.hid ((HPO3.out.below ((Below.refl w3.heap.size w3).alloc (Nat.le_refl _) (.cells #[.int .u64 t, .slice b1 n1 d1] 42 (0, 0)))).keep hk4 (fun b hb => by omega))
        have HBO4 := Lib.hid ((HBO.out.alloc' (.cells #[.int .u64 t, .slice b1 n1 d1] 42 (0, 0))).keep hk4 (fun b hb h => by have := (HBO.out.ge b hb).1; omega))
        have HBZ4 := Lib.hid ((HBZ.out.alloc (.cells #[.int .u64 t, .slice b1 n1 d1] 42 (0, 0))).keep hk4 (fun b hb h => by have := HLT.out b (by rw [← HBB.out]; exact hb); omega))
        have hlk := HM4.out.lookup t HU.out
        simp only [if_true] at hlk
        have q0 := HS4.out.cell 0
        have q1 := HS4.out.cell 1
        clear hm4 hk4
        have HRD2 := Lib.hid HRD.out
        by_cases hdup : idN (idL l) t = 0
        · by_cases h32 : l.length = 32
          · have HEND : Hid (r = none) := Lib.hid (HRD2.out.symm.trans (rdT_no HNE.out HO.out (.inr (by rw [prsL_length]; exact h32))))
            have z1 : ((l.length : Int) == 32) = true := by simp; omega
            have z2 : idN (idL l) t + 1 ≤ 1 := by omega
            clear hdup h32
            go_wp2_with fail
            go_returns
            rw [HEND.out]
            exact ⟨HK4.out, rfl⟩
          · have HGO : Hid (rdT (k' + 1) zs (prsL (l ++ [⟨t, b1, n1, d1, bs⟩])) = r) := Lib.hid (by
              rw [← HRD2.out, rdT_go HNE.out HO.out (by
                rw [prsL_ids, prsL_length]
                rintro (h | h)
                · exact idN_not hdup h
                · exact h32 h)]
              simp [prsL])
            have HMQ : Hid (Mp w4 w.heap.size (l.length + 1) (idN (idL (l ++ [⟨t, b1, n1, d1, bs⟩])))) := Lib.hid (HM4.out.as (fun y => by
              rw [show idL (l ++ [⟨t, b1, n1, d1, bs⟩]) = idL l ++ [t] by simp [idL]]
              exact idN_add _ _ _ hdup))
            have z1 : ((l.length : Int) == 32) = false := by simp; omega
            have z2 : idN (idL l) t + 1 ≤ 1 := by omega
            have hl31 : l.length + 1 ≤ 32 := by omega
            obtain ⟨i0, hi0, hz0, hz1, hz2⟩ := info_parts infoP
            have HI := Lib.hid hi0
            have HZ0 := Lib.hid hz0
            have HZ1 := Lib.hid hz1
            have HZ2 := Lib.hid hz2
            clear hdup h32 hi0 hz0 hz1 hz2
            go_wp2_with (at_builtin; refine halt ?_)
            refine Halted.go (wpList_app _ rfl _ _ 22 22 rfl (w.heap.size + 1) 42 i0 _ 2 32 Try.underlying22 HI.out HZ0.out HZ1.out HZ2.out rfl ao l.length co (Frs l) rfl (.inl (HPO4.out.1.alloc (.cells #[.int .u64 t, .slice b1 n1 d1] 42 (0, 0)))) (.slice (some ⟨w4.heap.size, 0, none⟩) 1 1) rfl 1 [.int .u64 t, .slice b1 n1 d1] (src_par w4 t _ rfl) (by unfold maxLen; omega) (by omega) (by simp; omega) ?_)
            intro a5 c5 w5 _ hk5 hn5 hown5 _
            have hpoA : Po (w.heap.size + 1) (w4.alloc (.cells #[.int .u64 t, .slice b1 n1 d1] 42 (0, 0))) ao co l := HPO4.out.below ((Below.refl w4.heap.size w4).alloc (Nat.le_refl _) (.cells #[.int .u64 t, .slice b1 n1 d1] 42 (0, 0)))
            have HPO5 : Hid (Po (w.heap.size + 1) w5 a5 c5 (l ++ [⟨t, b1, n1, d1, bs⟩])) := Lib.hid (Po.snoc (f := ⟨t, b1, n1, d1, bs⟩) hpoA hk5 hn5 (hown5 (by omega)) HU.out (HBO4.out.by.alloc _) (fun b hb => by
              have h1 := HBO.out.ge b hb
              refine ⟨by omega, by simp; omega, fun e => ?_⟩
              have h2 := own_ge HPO.out.1 b e
              omega))
            have HM5 := Lib.hid ((HMQ.out.alloc (.cells #[.int .u64 t, .slice b1 n1 d1] 42 (0, 0))).keep hk5 (fun e => by have := e.1; omega))
            have HK5 := Lib.hid (Keeps.mine_below (HK4.out.alloc (by omega) (.cells #[.int .u64 t, .slice b1 n1 d1] 42 (0, 0))) hk5 (by simp; omega) (Nat.le_succ _))
            have HBZ5 := Lib.hid ((HBZ4.out.alloc (.cells #[.int .u64 t, .slice b1 n1 d1] 42 (0, 0))).keep hk5 (fun b hb h => by have := HLT.out b (by rw [← HBB.out]; exact hb); have := h.1; omega))
            have hsz5 : w.heap.size + 1 ≤ w5.heap.size := by have := hk5.size; simp at this; omega
            clear hk5 hn5 hown5 hpoA hlk q0 q1
            go_wp2_with fail
            go_roundg k'
            case measure => omega
            case rel => exact ⟨b2, n2, d2, zs, a5, c5, l ++ [⟨t, b1, n1, d1, bs⟩], rfl, by simp, by omega, by omega, HBZ5.out, HBB.out, by simp; omega, HPO5.out, HGO.out, by simpa using HM5.out, HK5.out, hsz5⟩
        · have HEND : Hid (r = none) := Lib.hid (HRD2.out.symm.trans (rdT_no HNE.out HO.out (.inl (by rw [prsL_ids]; exact idN_in hdup))))
          have z2 : 1 < idN (idL l) t + 1 := by omega
          clear hdup
          go_wp2_with fail
          go_returns
          rw [HEND.out]
          exact ⟨HK4.out, rfl⟩
    · obtain rfl : m1 = 0 := by omega
      have hy0 : ys = [] := List.eq_nil_of_length_eq_zero HM1.out.symm
      have HEND : Hid (r = some (prsL l)) := Lib.hid (by rw [← HRD.out, hy0]; exact rdT_end _ _)
      clear hy0
      go_wp2_with fail
      go_returns
      rw [HEND.out]
      exact ⟨HK.out, ao, co, l, rfl, rfl, HPO.out.mono (Nat.le_succ _)⟩

end Go.Proofs.Ytabdoikfcaiobaa
