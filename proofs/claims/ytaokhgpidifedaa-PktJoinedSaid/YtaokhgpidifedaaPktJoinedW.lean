/- The walk of PktJoined. -/
import Derived.Test.YtaokhgpidifedaaPktO
namespace Go.Proofs.Ytaokhgpidifedaa
open Go.RowKit Go.Deep

theorem tri_snoc {base : Nat} {w : World} {K : List Nat} {a1 : Option Addr} {c1 nb : Nat} {a2 : Option Addr} {c2 : Nat} {a3 : Option Addr} {c3 : Nat} {L : List It} {t : It} {X : List UInt8} {hc hs : List Value} (h : Tri base w K a1 ((bys L).length + nb) c1 (bys L ++ X) a2 (L.length + 1) c2 (hcs L ++ hc) a3 (L.length + 1) c3 (sls L ++ hs)) (hX : X = t.by) (hC : hc = t.hc) (hS : hs = [t.sl]) :
    Tri base w [] a1 (bys (L ++ [t])).length c1 (bys (L ++ [t])) a2 (L ++ [t]).length c2 (hcs (L ++ [t])) a3 (L ++ [t]).length c3 (sls (L ++ [t])) := by
  subst hX; subst hC; subst hS
  have e1 : (bys L).length + nb = (bys L ++ t.by).length := h.o1.1
  rw [bys_snoc, hcs_snoc, sls_snoc, ← e1, show (L ++ [t]).length = L.length + 1 by simp]
  exact h.forget

theorem joinS {w : World} {hb pb po : Nat} {u0 u1 u2 u3 u4 u5 u6 v : Value} {xs : List UInt8} {a : Option Addr} {n c : Nat} (h : Blk w hb #[u0, u1, u2, u3, u4, u5, u6] 29) (hp : w.cell? ⟨pb, po, none⟩ = some v ∧ By w a n c xs) :
    w.cell? ⟨hb, 0, none⟩ = some u0 ∧ w.cell? ⟨hb, 1, none⟩ = some u1 ∧ w.cell? ⟨hb, 2, none⟩ = some u2 ∧ w.cell? ⟨hb, 3, none⟩ = some u3 ∧ w.cell? ⟨hb, 4, none⟩ = some u4 ∧ w.cell? ⟨hb, 5, none⟩ = some u5 ∧ w.cell? ⟨hb, 6, none⟩ = some u6 ∧ w.cell? ⟨pb, po, none⟩ = some v :=
  ⟨h.cell 0, h.cell 1, h.cell 2, h.cell 3, h.cell 4, h.cell 5, h.cell 6, hp.1⟩

set_option maxRecDepth 100000 in
set_option maxHeartbeats 12800000 in
theorem walkPktJoined (w : World) (v0 : Value) (h0 : Arg Try.prog w 22 v0) (v1 : Value) (h1 : Arg Try.prog w 23 v1) (v2 : Value) (h2 : Arg Try.prog w 24 v2) :
    Calls Try.prog 3 #[v0, v1, v2] w fun e w' => e = .returned (.bool true) ∧ Below w.heap.size w w' := by
  obtain ⟨a0, n0, k0, rfl, hle0, hmx0, hd0⟩ := h0.headers
  obtain ⟨a1, n1, k1, rfl, hle1, hmx1, hr1⟩ := h1.rows
  obtain ⟨a2, n2, k2, zs, rfl, hz⟩ := h2.bytes2
  have hz0 := hz w (Below.refl _ _)
  have hzle := hz0.2.le
  have hzmx := hz0.2.max
  unfold maxLen at hmx0 hmx1 hzmx
  have HD := Lib.hid hd0
  have HR := Lib.hid hr1
  have HZ := Lib.hid hz
  have HZN := Lib.hid hz0.1
  clear hd0 hr1 hz hz0 h0 h1 h2
  go_enter Try.func3, Try.ntmps3
  go_wp2_with fail
  refine (known_any w).mono ?_
  rintro e w1 ⟨rfl, hk1⟩
  have HBW := Lib.hid hk1
  clear hk1
  by_cases g0 : 5 < n0
  · go_wp2_with fail
    go_returns
    exact ⟨rfl, HBW.out⟩
  by_cases g1 : n1 < n0
  · go_wp2_with fail
    go_returns
    exact ⟨rfl, HBW.out⟩
  by_cases g2 : 100 < n2
  · go_wp2_with fail
    go_returns
    exact ⟨rfl, HBW.out⟩
  have g0I : ¬ (5 : Int) < (n0 : Int) := by omega
  have g1I : ¬ (n1 : Int) < (n0 : Int) := by omega
  have g2I : ¬ (100 : Int) < (n2 : Int) := by omega
  obtain ⟨base, hbase⟩ : ∃ base, w1.heap.size = base := ⟨_, rfl⟩
  have HBA := Lib.hid hbase
  have hbw : w.heap.size ≤ base := by rw [← hbase]; exact HBW.out.size
  have hb1 : base ≤ w1.heap.size := by omega
  clear hbase
  go_wp2_with fail
  go_loopg [7, 8, 9, 10] n0 (fun k v7 v8 v9 v10 wr => ∃ (i : Nat) (L : List It) (q1 : Option Addr) (p1 : Nat) (q2 : Option Addr) (p2 : Nat) (q3 : Option Addr) (p3 : Nat), k + i = n0 ∧ v10 = .int .i64 i ∧ v7 = .slice q1 (bys L).length p1 ∧ v8 = .slice q2 L.length p2 ∧ v9 = .slice q3 L.length p3 ∧ L.length ≤ i ∧ (∀ t ∈ L, t.Ok w) ∧ Tri base wr [] q1 (bys L).length p1 (bys L) q2 L.length p2 (hcs L) q3 L.length p3 (sls L) ∧ Below base w1 wr)
  case atStart => exact ⟨0, [], none, 0, none, 0, none, 0, by omega, rfl, rfl, rfl, rfl, Nat.le_refl _, fun t ht => by (cases ht), Tri.nil _ _, Below.refl _ _⟩
  case round =>
    obtain ⟨i, L, q1, p1, q2, p2, q3, p3, hi, rfl, rfl, rfl, rfl, hLi, hok, htri, hbel⟩ := hrel
    have HI := Lib.hid hi
    have HOK := Lib.hid hok
    have HT0 := Lib.hid htri
    have HB0 := Lib.hid hbel
    have hxl : (bys L).length ≤ 6000 := by have := bys_le L hok; omega
    have hsw : base ≤ wr.heap.size := by have := hbel.size; have := HBA.out; omega
    clear hi hok htri hbel
    by_cases hin : i < n0
    · obtain ⟨lg, ty, ve, da, dn, dc, dx, sa, sn, sc, sx, pn, pl, hb0, off, rfl, hbl, hcell, v0', v1', n0', n1'⟩ := HD.out i hin
      obtain ⟨pa, pm, pc, ys, pb, poff, rfl, hpl, hpc⟩ := HR.out i (by omega)
      have HCE := Lib.hid hcell
      have HPA := Lib.hid hpc
      have HKR : Hid (Below w.heap.size w wr) := Lib.hid (HBW.out.trans (HB0.out.mono hbw))
      obtain ⟨⟨e0, e1, e2, e3, e4, e5, e6⟩, _, _⟩ := HCE.out wr HKR.out
      have f0 := (HPA.out (wr.alloc (.cells #[.bool lg, .int .i64 ty, .int .u32 ve, .slice da dn dc, .slice sa sn sc, .int .u64 pn, .int .i64 pl] 29 (0, 0))) (HKR.out.alloc HKR.out.size _)).1
      have hpmax := (HPA.out w (Below.refl _ _)).2.2.max
      have hple := (HPA.out w (Below.refl _ _)).2.2.le
      unfold maxLen at hpmax
      have iz : (0 : Int) ≤ (i : Int) := by omega
      have iz0 : (i : Int) < (n0 : Int) := by omega
      have iz1 : (i : Int) < (n1 : Int) := by omega
      clear hcell hpc
      by_cases hpm : 100 < pm
      · go_wp2_with fail
        go_returns
        exact ⟨rfl, HKR.out.alloc HKR.out.size _⟩
      have hpmI : ¬ (100 : Int) < (pm : Int) := by omega
      go_upto_region 15 with fail
      refine wp_named ?_
      intro w5 hw5
      have HH5 : Hid (Blk w5 wr.heap.size #[.bool true, .int .i64 ty, .int .u32 ve, .slice da dn dc, .slice sa sn sc, .int .u64 pn, .int .i64 pl] 29) := Lib.hid (by rw [← hw5]; exact Blk.new wr _ _)
      have hs5 : w5.heap.size = wr.heap.size + 1 := by rw [← hw5]; simp
      have hk5 : Below wr.heap.size wr w5 := by rw [← hw5]; exact (Below.refl _ wr).alloc (Nat.le_refl _) _
      have HK5 := Lib.hid hk5
      have hfr := HT0.out.fresh (b := wr.heap.size) (Nat.le_refl _)
      have HT5 := Lib.hid ((HT0.out.below hk5).add wr.heap.size (by omega) hfr.1 hfr.2.1 hfr.2.2)
      have HB5 := Lib.hid (HB0.out.trans (hk5.mono hsw))
      have HS5 := Lib.hid hs5
      clear hw5 hk5 hfr e0 e1 e2 e3 e4 e5 e6 f0 hs5
      generalize wr.heap.size = hb at *
      have HKR5 : Hid (Below w.heap.size w w5) := Lib.hid (HBW.out.trans (HB5.out.mono hbw))
      obtain ⟨e0, e1, e2, e3, e4, e5, e6, f0⟩ := joinS HH5.out (HPA.out w5 HKR5.out)
      go_region_held3 (fun w' : World => w'.cell? ⟨hb, 0, none⟩ = some (.bool true) ∧ w'.cell? ⟨hb, 1, none⟩ = some (.int .i64 ty) ∧ w'.cell? ⟨hb, 2, none⟩ = some (.int .u32 ve) ∧ w'.cell? ⟨hb, 3, none⟩ = some (.slice da dn dc) ∧ w'.cell? ⟨hb, 4, none⟩ = some (.slice sa sn sc) ∧ w'.cell? ⟨hb, 5, none⟩ = some (.int .u64 pn) ∧ w'.cell? ⟨hb, 6, none⟩ = some (.int .i64 pl) ∧ w'.cell? ⟨pb, poff + i, none⟩ = some (.slice pa pm pc)) (first | exact ⟨e0, e1, e2, e3, e4, e5, e6, f0⟩ | exact ⟨m0, m1, m2, m3, m4, m5, m6, m7⟩ | go_keep) ((go_at_call 6; refine (ref_any true ty ve da dn dc dx sa sn sc sx pn pl pa pm pc ys _ (fun w' h => (HCE.out w' (HKR5.out.drew.trans (h.mono HKR5.out.size))).2.1) (fun w' h => (HCE.out w' (HKR5.out.drew.trans (h.mono HKR5.out.size))).2.2) (fun w' h => (HPA.out w' (HKR5.out.drew.trans (h.mono HKR5.out.size))).2) n0' n1' v0' v1' (by omega)).mono ?_; rintro e w6 ⟨ab, nb, cb, rfl, ho6, hk6⟩; have HO6 := Lib.hid ho6; have HK6 := Lib.hid hk6; obtain ⟨m0, m1, m2, m3, m4, m5, m6, m7⟩ := joinS ((Below.keeps hk6).blk HH5.out.drew (by show ¬ w5.heap.size ≤ hb; rw [HS5.out]; omega)) (HPA.out w6 (HKR5.out.drew.trans (hk6.mono HKR5.out.size))); clear ho6 hk6; dsimp only))
      cases hwr : wrOK true ty ve dx sx pn pl ys with
      | false =>
        obtain ⟨b1, b2⟩ := wr_bad hwr
        rw [b2]
        clear b1 b2 hwr e0 e1 e2 e3 e4 e5 e6 f0 m0 m1 m2 m3 m4 m5 m6 m7
        rename_i hheld
        clear hheld
        have HT6 := Lib.hid ((HT5.out.keep ((Keeps.refl (fun _ => False) w5).drew) (fun _ _ e => e) (fun _ _ e => e) (fun _ _ e => e)).below HK6.out).forget
        have HB6 := Lib.hid (HB5.out.drew.trans (HK6.out.mono (by show base ≤ w5.heap.size; rw [HS5.out]; omega)))
        go_wp2_with fail
        obtain ⟨gk', rfl⟩ : ∃ gk', gk = gk' + 1 := ⟨gk - 1, by have := HI.out; omega⟩
        go_roundg gk'
        case measure => omega
        case rel => exact ⟨i + 1, L, q1, p1, q2, p2, q3, p3, by have := HI.out; omega, by go_num, rfl, rfl, rfl, by omega, HOK.out, HT6.out, HB6.out⟩
      | true =>
        obtain ⟨b1, b2⟩ := wr_good hwr
        rw [b2]
        have ho6 := HO6.out
        rw [b1] at ho6
        have hpl : pl = (pl.toNat : Int) := by
          have h := hwr
          unfold wrOK at h
          simp only [Bool.and_eq_true] at h
          have := hdOK_pl h.1.1
          omega
        have hnb : nb ≤ 1200 := by
          have h1 := HO6.out.1
          have h2 := wrX_le true ty ve dx sx pn pl ys
          omega
        obtain ⟨X, hX⟩ : ∃ X, pkE true ty ve dx sx pn pl.toNat ys = X := ⟨_, rfl⟩
        rw [hX] at ho6
        have HY0 := Lib.hid ho6.by
        have HX := Lib.hid hX
        obtain ⟨t0, ht0⟩ : ∃ t0 : It, It.mk ty ve da dn dc dx sa sn sc sx pn pl pa pm pc ys = t0 := ⟨_, rfl⟩
        have HX2 : Hid (X = t0.by) := Lib.hid (by rw [← ht0]; exact hX.symm)
        have HTC : Hid (#[.bool true, .int .i64 ty, .int .u32 ve, .slice da dn dc, .slice sa sn sc, .int .u64 pn, .int .i64 pl].toList = t0.hc) := Lib.hid (by rw [← ht0]; rfl)
        have HTS : Hid (#[Value.slice pa pm pc].toList = [t0.sl]) := Lib.hid (by rw [← ht0]; rfl)
        have HLB : Hid ((bys (L ++ [t0])).length = (bys L).length + nb) := Lib.hid (by rw [bys_snoc, List.length_append, ← HX2.out, ← ho6.1])
        have HLL : Hid ((L ++ [t0]).length = L.length + 1) := Lib.hid (by simp)
        have HOKT : Hid (∀ t ∈ L ++ [t0], t.Ok w) := Lib.hid (fun t ht => by
          rcases List.mem_append.1 ht with h | h
          · exact HOK.out t h
          · have e : t = t0 := by simpa using h
            rw [e, ← ht0]
            exact ⟨fun w' h => (HCE.out w' h).2.1, fun w' h => (HCE.out w' h).2.2, fun w' h => (HPA.out w' h).2, v0', v1', n0', hwr⟩)
        clear ht0
        have HT6 := Lib.hid ((HT5.out.keep ((Keeps.refl (fun _ => False) w5).drew) (fun _ _ e => e) (fun _ _ e => e) (fun _ _ e => e)).below HK6.out)
        have HB6 := Lib.hid (HB5.out.drew.trans (HK6.out.mono (by show base ≤ w5.heap.size; rw [HS5.out]; omega)))
        have HH6 := Lib.hid ((Below.keeps HK6.out).blk HH5.out.drew (by show ¬ w5.heap.size ≤ hb; rw [HS5.out]; omega))
        clear b1 b2 hwr ho6 hX hpl e0 e1 e2 e3 e4 e5 e6 f0 m0 m1 m2 m3 m4 m5 m6 m7
        rename_i hheld
        clear hheld
        go_upto_region 17 with fail
        have hLl : L.length ≤ 5 := by omega
        obtain ⟨j8, j81, j82, j83, j84⟩ := info_parts info8
        obtain ⟨jh, jh1, jh2, jh3, jh4⟩ := info_parts infoH
        obtain ⟨js, js1, js2, js3, js4⟩ := info_parts infoS
        have HJ8 := Lib.hid j81
        refine wp_region_held (S := fun w' : World => w'.cell? ⟨hb, 0, none⟩ = some (.bool true) ∧ w'.cell? ⟨hb, 1, none⟩ = some (.int .i64 ty) ∧ w'.cell? ⟨hb, 2, none⟩ = some (.int .u32 ve) ∧ w'.cell? ⟨hb, 3, none⟩ = some (.slice da dn dc) ∧ w'.cell? ⟨hb, 4, none⟩ = some (.slice sa sn sc) ∧ w'.cell? ⟨hb, 5, none⟩ = some (.int .u64 pn) ∧ w'.cell? ⟨hb, 6, none⟩ = some (.int .i64 pl) ∧ w'.cell? ⟨pb, poff + i, none⟩ = some (.slice pa pm pc)) (by kernel_rfl) ?_
        change wpAnyH _ _ _ _ _ _ _ _ (World.drew _)
        have HT7 := Lib.hid (HT6.out.keep ((Keeps.refl (fun _ => False) w6).drew) (fun _ _ e => e) (fun _ _ e => e) (fun _ _ e => e))
        have HB7 := Lib.hid HB6.out.drew
        have HH7 : Hid (Blk w6.drew hb #[.bool true, .int .i64 ty, .int .u32 ve, .slice da dn dc, .slice sa sn sc, .int .u64 pn, .int .i64 pl] 29) := Lib.hid HH6.out.drew
        have HY7 := Lib.hid (HY0.out.keep ((Keeps.refl (fun _ => False) w6).drew) (fun _ _ e => e))
        generalize w6.drew = w7 at *
        have hS := joinS HH7.out (HPA.out w7 (HBW.out.trans (HB7.out.mono hbw)))
        refine wpAnyH_take (i := 0) (v := ?_) rfl (by kernel_rfl) (by kernel_rfl) (by kernel_rfl) (fun _ _ _ h => h) (Or.inl ⟨by kernel_rfl, ?_⟩) hS ?_
        rotate_left
        · intro wz ⟨_, _, _, _, _, _, _, _⟩; go_simp; try with_reducible rfl
        refine wpAnyH_take (i := 1) (v := ?_) rfl (by kernel_rfl) (by kernel_rfl) (by kernel_rfl) (fun _ _ _ h => h) (Or.inl ⟨by kernel_rfl, ?_⟩) hS ?_
        rotate_left
        · intro wz ⟨_, _, _, _, _, _, _, _⟩; go_simp; try with_reducible rfl
        refine wpAnyH_take (i := 3) (v := ?_) rfl (by kernel_rfl) (by kernel_rfl) (by kernel_rfl) (fun _ _ _ h => h) (Or.inl ⟨by kernel_rfl, ?_⟩) hS ?_
        rotate_left
        · intro wz ⟨_, _, _, _, _, _, _, _⟩; go_simp; try with_reducible rfl
        refine wpAnyH_take (i := 4) (v := ?_) rfl (by kernel_rfl) (by kernel_rfl) (by kernel_rfl) (fun _ _ _ h => h) (Or.inl ⟨by kernel_rfl, ?_⟩) hS ?_
        rotate_left
        · intro wz ⟨_, _, _, _, _, _, _, _⟩; go_simp; try with_reducible rfl
        refine wpAnyH_take (i := 7) (v := ?_) rfl (by kernel_rfl) (by kernel_rfl) (by kernel_rfl) (fun _ _ _ h => h) (Or.inl ⟨by kernel_rfl, ?_⟩) hS ?_
        rotate_left
        · intro wz ⟨_, _, _, _, _, _, _, _⟩; go_simp; try with_reducible rfl
        refine wpAnyH_take (i := 8) (v := ?_) rfl (by kernel_rfl) (by kernel_rfl) (by kernel_rfl) (fun _ _ _ h => h) (Or.inl ⟨by kernel_rfl, ?_⟩) hS ?_
        rotate_left
        · intro wz ⟨_, _, _, _, _, _, _, _⟩; go_simp; try with_reducible rfl
        refine wpAnyH_take (i := 9) (v := ?_) rfl (by kernel_rfl) (by kernel_rfl) (by kernel_rfl) (fun _ _ _ h => h) (Or.inl ⟨by kernel_rfl, ?_⟩) hS ?_
        rotate_left
        · intro wz ⟨_, _, _, _, _, _, _, _⟩; go_simp; try with_reducible rfl
        refine wpAnyH_take (i := 10) (v := ?_) rfl (by kernel_rfl) (by kernel_rfl) (by kernel_rfl) (fun _ _ _ h => h) (Or.inl ⟨by kernel_rfl, ?_⟩) hS ?_
        rotate_left
        · intro wz ⟨_, _, _, _, _, _, _, _⟩; go_simp; try with_reducible rfl
        refine wpAnyH_take (i := 11) (v := ?_) rfl (by kernel_rfl) (by kernel_rfl) (by kernel_rfl) (fun _ _ _ h => h) (Or.inl ⟨by kernel_rfl, ?_⟩) hS ?_
        rotate_left
        · intro wz ⟨_, _, _, _, _, _, _, _⟩; go_simp; try with_reducible rfl
        clear hS
        refine wpAnyH_all (rs := [2, 5, 12]) (by kernel_rfl) (by simp) (fun j hj => ?_)
        rcases (by simpa using hj : j = 2 ∨ j = 5 ∨ j = 12) with rfl | rfl | rfl
        · clear hj
          refine op_app rfl (by kernel_rfl) (.tmp 69) (.tmp 70) 24 24 rfl base 5 j8 _ 1 1 Try.underlying24 j81 j82 j83 j84 rfl q1 (bys L).length p1 (Bs (bys L)) (by kernel_rfl) (.inl HT7.out.o1.2) (.slice ab nb cb) (by kernel_rfl) nb (Bs X) (HY7.out.2.src Try.underlying24 (Bs_one _)) (by unfold maxLen; omega) (by omega) (by have := HB7.out.size; omega) ?_
          intro a1_1 c1_1 wt1 _ hk1 hn1 hown1 hnil1
          have HT1 : Hid (Tri base wt1 [hb] a1_1 ((bys L).length + nb) c1_1 ((bys L) ++ X) q2 L.length p2 (hcs L) q3 L.length p3 (sls L)) := Lib.hid (HT7.out.app1 (own_app HT7.out.o1 HY7.out.1 hown1 hnil1) hk1 hn1)
          have HB1 : Hid (Below base w1 wt1) := Lib.hid (Keeps.mine_below HB7.out hk1 (by have := HB7.out.size; omega) (Nat.le_refl _))
          have HH1 : Hid (Blk wt1 hb #[.bool true, .int .i64 ty, .int .u32 ve, .slice da dn dc, .slice sa sn sc, .int .u64 pn, .int .i64 pl] 29) := Lib.hid (HT7.out.blk1 (by simp) hk1 HH7.out)
          clear hk1 hn1 hown1 hnil1
          refine ⟨(joinS HH1.out (HPA.out wt1 (HBW.out.trans (HB1.out.mono (by omega))))), ?_⟩
          refine wpAnyH_all (rs := [5, 12]) (by kernel_rfl) (by simp) (fun j hj => ?_)
          rcases (by simpa using hj : j = 5 ∨ j = 12) with rfl | rfl
          · clear hj
            refine op_make (.slice (some ⟨wt1.heap.size, 0, none⟩) 1 1) (.cells #[.bool true, .int .i64 ty, .int .u32 ve, .slice da dn dc, .slice sa sn sc, .int .u64 pn, .int .i64 pl] 29 (0, 0)) rfl (by kernel_rfl) (by kernel_rfl) ?_
            intro wt2 hw2
            have HT2 : Hid (Tri base wt2 (wt1.heap.size :: [hb]) a1_1 ((bys L).length + nb) c1_1 ((bys L) ++ X) q2 L.length p2 (hcs L) q3 L.length p3 (sls L)) := Lib.hid (hw2 ▸ HT1.out.made (.cells #[.bool true, .int .i64 ty, .int .u32 ve, .slice da dn dc, .slice sa sn sc, .int .u64 pn, .int .i64 pl] 29 (0, 0)))
            have HB2 : Hid (Below base w1 wt2) := Lib.hid (hw2 ▸ HB1.out.alloc (by have := HB1.out.size; omega) _)
            have HH2 : Hid (Blk wt2 hb #[.bool true, .int .i64 ty, .int .u32 ve, .slice da dn dc, .slice sa sn sc, .int .u64 pn, .int .i64 pl] 29) := Lib.hid (hw2 ▸ Blk.alloc HH1.out _)
            have HR2 : Hid (Blk wt2 wt1.heap.size #[.bool true, .int .i64 ty, .int .u32 ve, .slice da dn dc, .slice sa sn sc, .int .u64 pn, .int .i64 pl] 29) := Lib.hid (hw2 ▸ Blk.new wt1 #[.bool true, .int .i64 ty, .int .u32 ve, .slice da dn dc, .slice sa sn sc, .int .u64 pn, .int .i64 pl] 29)
            clear hw2
            refine ⟨(joinS HH2.out (HPA.out wt2 (HBW.out.trans (HB2.out.mono (by omega))))), ?_⟩
            refine wpAnyH_all (rs := [6, 12]) (by kernel_rfl) (by simp) (fun j hj => ?_)
            rcases (by simpa using hj : j = 6 ∨ j = 12) with rfl | rfl
            · clear hj
              refine op_app rfl (by kernel_rfl) (.tmp 72) (.tmp 74) 22 22 rfl base 29 jh _ 7 88 Try.underlying22 jh1 jh2 jh3 jh4 rfl q2 L.length p2 (hcs L) (by kernel_rfl) (.inl HT2.out.o2) (.slice (some ⟨wt1.heap.size, 0, none⟩) 1 1) (by kernel_rfl) 1 #[.bool true, .int .i64 ty, .int .u32 ve, .slice da dn dc, .slice sa sn sc, .int .u64 pn, .int .i64 pl].toList (src_blk HR2.out Try.underlying22 rfl (by intro u hu; simp at hu; rcases hu with rfl | rfl | rfl | rfl | rfl | rfl | rfl <;> rfl)) (by unfold maxLen; omega) (by omega) (by have := HB2.out.size; omega) ?_
              intro a2_3 c2_3 wt3 _ hk3 hn3 hown3 hnil3
              have HT3 : Hid (Tri base wt3 (wt1.heap.size :: [hb]) a1_1 ((bys L).length + nb) c1_1 ((bys L) ++ X) a2_3 (L.length + 1) c2_3 ((hcs L) ++ #[.bool true, .int .i64 ty, .int .u32 ve, .slice da dn dc, .slice sa sn sc, .int .u64 pn, .int .i64 pl].toList) q3 L.length p3 (sls L)) := Lib.hid (HT2.out.app2 (hown3 (by decide)) hk3 hn3)
              have HB3 : Hid (Below base w1 wt3) := Lib.hid (Keeps.mine_below HB2.out hk3 (by have := HB2.out.size; omega) (Nat.le_refl _))
              have HH3 : Hid (Blk wt3 hb #[.bool true, .int .i64 ty, .int .u32 ve, .slice da dn dc, .slice sa sn sc, .int .u64 pn, .int .i64 pl] 29) := Lib.hid (HT2.out.blk2 (by simp) hk3 HH2.out)
              have Hb53 : Hid (Blk wt3 (wt1.heap.size) #[.bool true, .int .i64 ty, .int .u32 ve, .slice da dn dc, .slice sa sn sc, .int .u64 pn, .int .i64 pl] 29) := Lib.hid (HT2.out.blk2 (by simp) hk3 HR2.out)
              clear hk3 hn3 hown3 hnil3
              refine ⟨(joinS HH3.out (HPA.out wt3 (HBW.out.trans (HB3.out.mono (by omega))))), ?_⟩
              refine wpAnyH_all (rs := [12]) (by kernel_rfl) (by simp) (fun j hj => ?_)
              obtain rfl : j = 12 := by simpa using hj
              clear hj
              refine op_make (.slice (some ⟨wt3.heap.size, 0, none⟩) 1 1) (.cells #[.slice pa pm pc] 24 (0, 0)) rfl (by kernel_rfl) (by kernel_rfl) ?_
              intro wt4 hw4
              have HT4 : Hid (Tri base wt4 (wt3.heap.size :: (wt1.heap.size :: [hb])) a1_1 ((bys L).length + nb) c1_1 ((bys L) ++ X) a2_3 (L.length + 1) c2_3 ((hcs L) ++ #[.bool true, .int .i64 ty, .int .u32 ve, .slice da dn dc, .slice sa sn sc, .int .u64 pn, .int .i64 pl].toList) q3 L.length p3 (sls L)) := Lib.hid (hw4 ▸ HT3.out.made (.cells #[.slice pa pm pc] 24 (0, 0)))
              have HB4 : Hid (Below base w1 wt4) := Lib.hid (hw4 ▸ HB3.out.alloc (by have := HB3.out.size; omega) _)
              have HH4 : Hid (Blk wt4 hb #[.bool true, .int .i64 ty, .int .u32 ve, .slice da dn dc, .slice sa sn sc, .int .u64 pn, .int .i64 pl] 29) := Lib.hid (hw4 ▸ Blk.alloc HH3.out _)
              have HR4 : Hid (Blk wt4 wt3.heap.size #[.slice pa pm pc] 24) := Lib.hid (hw4 ▸ Blk.new wt3 #[.slice pa pm pc] 24)
              have HQ4 : Hid (Blk wt4 (wt1.heap.size) #[.bool true, .int .i64 ty, .int .u32 ve, .slice da dn dc, .slice sa sn sc, .int .u64 pn, .int .i64 pl] 29) := Lib.hid (hw4 ▸ Blk.alloc Hb53.out _)
              clear hw4
              refine ⟨(joinS HH4.out (HPA.out wt4 (HBW.out.trans (HB4.out.mono (by omega))))), ?_⟩
              refine wpAnyH_all (rs := [13]) (by kernel_rfl) (by simp) (fun j hj => ?_)
              obtain rfl : j = 13 := by simpa using hj
              clear hj
              refine op_app rfl (by kernel_rfl) (.tmp 76) (.tmp 81) 23 23 rfl base 24 js _ 1 24 Try.underlying23 js1 js2 js3 js4 rfl q3 L.length p3 (sls L) (by kernel_rfl) (.inl HT4.out.o3) (.slice (some ⟨wt3.heap.size, 0, none⟩) 1 1) (by kernel_rfl) 1 #[.slice pa pm pc].toList (src_blk HR4.out Try.underlying23 rfl (by intro u hu; simp at hu; subst hu; rfl)) (by unfold maxLen; omega) (by omega) (by have := HB4.out.size; omega) ?_
              intro a3_5 c3_5 wt5 _ hk5 hn5 hown5 hnil5
              have HT5 : Hid (Tri base wt5 (wt3.heap.size :: (wt1.heap.size :: [hb])) a1_1 ((bys L).length + nb) c1_1 ((bys L) ++ X) a2_3 (L.length + 1) c2_3 ((hcs L) ++ #[.bool true, .int .i64 ty, .int .u32 ve, .slice da dn dc, .slice sa sn sc, .int .u64 pn, .int .i64 pl].toList) a3_5 (L.length + 1) c3_5 ((sls L) ++ #[.slice pa pm pc].toList)) := Lib.hid (HT4.out.app3 (hown5 (by decide)) hk5 hn5)
              have HB5 : Hid (Below base w1 wt5) := Lib.hid (Keeps.mine_below HB4.out hk5 (by have := HB4.out.size; omega) (Nat.le_refl _))
              have HH5 : Hid (Blk wt5 hb #[.bool true, .int .i64 ty, .int .u32 ve, .slice da dn dc, .slice sa sn sc, .int .u64 pn, .int .i64 pl] 29) := Lib.hid (HT4.out.blk3 (by simp) hk5 HH4.out)
              have Hb55 : Hid (Blk wt5 (wt1.heap.size) #[.bool true, .int .i64 ty, .int .u32 ve, .slice da dn dc, .slice sa sn sc, .int .u64 pn, .int .i64 pl] 29) := Lib.hid (HT4.out.blk3 (by simp) hk5 HQ4.out)
              have Hb125 : Hid (Blk wt5 (wt3.heap.size) #[.slice pa pm pc] 24) := Lib.hid (HT4.out.blk3 (by simp) hk5 HR4.out)
              clear hk5 hn5 hown5 hnil5
              refine ⟨(joinS HH5.out (HPA.out wt5 (HBW.out.trans (HB5.out.mono (by omega))))), ?_⟩
              have hS := joinS HH5.out (HPA.out wt5 (HBW.out.trans (HB5.out.mono (by omega))))
              refine wpAnyH_take (i := 14) (v := ?_) rfl (by kernel_rfl) (by kernel_rfl) (by kernel_rfl) (fun _ _ _ h => h) (Or.inl ⟨by kernel_rfl, ?_⟩) hS ?_
              rotate_left
              · intro wz ⟨_, _, _, _, _, _, _, _⟩; go_simp; try with_reducible rfl
              refine wpAnyH_take (i := 15) (v := ?_) rfl (by kernel_rfl) (by kernel_rfl) (by kernel_rfl) (fun _ _ _ h => h) (Or.inl ⟨by kernel_rfl, ?_⟩) hS ?_
              rotate_left
              · intro wz ⟨_, _, _, _, _, _, _, _⟩; go_simp; try with_reducible rfl
              refine wpAnyH_take (i := 16) (v := ?_) rfl (by kernel_rfl) (by kernel_rfl) (by kernel_rfl) (fun _ _ _ h => h) (Or.inl ⟨by kernel_rfl, ?_⟩) hS ?_
              rotate_left
              · intro wz ⟨_, _, _, _, _, _, _, _⟩; go_simp; try with_reducible rfl
              refine wpAnyH_done (by kernel_rfl) ?_ _
              clear hS
              go_wp2_with fail
              obtain ⟨gk', rfl⟩ : ∃ gk', gk = gk' + 1 := ⟨gk - 1, by have := HI.out; omega⟩
              go_roundg gk'
              case measure => omega
              case rel => exact ⟨i + 1, L ++ [t0], a1_1, c1_1, a2_3, c2_3, a3_5, c3_5, by have := HI.out; omega, by go_num, by rw [HLB.out], by rw [HLL.out], by rw [HLL.out], by rw [HLL.out]; omega, HOKT.out, tri_snoc HT5.out HX2.out HTC.out HTS.out, HB5.out⟩
            · clear hj
              refine op_make (.slice (some ⟨wt2.heap.size, 0, none⟩) 1 1) (.cells #[.slice pa pm pc] 24 (0, 0)) rfl (by kernel_rfl) (by kernel_rfl) ?_
              intro wt6 hw6
              have HT6 : Hid (Tri base wt6 (wt2.heap.size :: (wt1.heap.size :: [hb])) a1_1 ((bys L).length + nb) c1_1 ((bys L) ++ X) q2 L.length p2 (hcs L) q3 L.length p3 (sls L)) := Lib.hid (hw6 ▸ HT2.out.made (.cells #[.slice pa pm pc] 24 (0, 0)))
              have HB6 : Hid (Below base w1 wt6) := Lib.hid (hw6 ▸ HB2.out.alloc (by have := HB2.out.size; omega) _)
              have HH6 : Hid (Blk wt6 hb #[.bool true, .int .i64 ty, .int .u32 ve, .slice da dn dc, .slice sa sn sc, .int .u64 pn, .int .i64 pl] 29) := Lib.hid (hw6 ▸ Blk.alloc HH2.out _)
              have HR6 : Hid (Blk wt6 wt2.heap.size #[.slice pa pm pc] 24) := Lib.hid (hw6 ▸ Blk.new wt2 #[.slice pa pm pc] 24)
              have HQ6 : Hid (Blk wt6 (wt1.heap.size) #[.bool true, .int .i64 ty, .int .u32 ve, .slice da dn dc, .slice sa sn sc, .int .u64 pn, .int .i64 pl] 29) := Lib.hid (hw6 ▸ Blk.alloc HR2.out _)
              clear hw6
              refine ⟨(joinS HH6.out (HPA.out wt6 (HBW.out.trans (HB6.out.mono (by omega))))), ?_⟩
              refine wpAnyH_all (rs := [6]) (by kernel_rfl) (by simp) (fun j hj => ?_)
              obtain rfl : j = 6 := by simpa using hj
              clear hj
              refine op_app rfl (by kernel_rfl) (.tmp 72) (.tmp 74) 22 22 rfl base 29 jh _ 7 88 Try.underlying22 jh1 jh2 jh3 jh4 rfl q2 L.length p2 (hcs L) (by kernel_rfl) (.inl HT6.out.o2) (.slice (some ⟨wt1.heap.size, 0, none⟩) 1 1) (by kernel_rfl) 1 #[.bool true, .int .i64 ty, .int .u32 ve, .slice da dn dc, .slice sa sn sc, .int .u64 pn, .int .i64 pl].toList (src_blk HQ6.out Try.underlying22 rfl (by intro u hu; simp at hu; rcases hu with rfl | rfl | rfl | rfl | rfl | rfl | rfl <;> rfl)) (by unfold maxLen; omega) (by omega) (by have := HB6.out.size; omega) ?_
              intro a2_7 c2_7 wt7 _ hk7 hn7 hown7 hnil7
              have HT7 : Hid (Tri base wt7 (wt2.heap.size :: (wt1.heap.size :: [hb])) a1_1 ((bys L).length + nb) c1_1 ((bys L) ++ X) a2_7 (L.length + 1) c2_7 ((hcs L) ++ #[.bool true, .int .i64 ty, .int .u32 ve, .slice da dn dc, .slice sa sn sc, .int .u64 pn, .int .i64 pl].toList) q3 L.length p3 (sls L)) := Lib.hid (HT6.out.app2 (hown7 (by decide)) hk7 hn7)
              have HB7 : Hid (Below base w1 wt7) := Lib.hid (Keeps.mine_below HB6.out hk7 (by have := HB6.out.size; omega) (Nat.le_refl _))
              have HH7 : Hid (Blk wt7 hb #[.bool true, .int .i64 ty, .int .u32 ve, .slice da dn dc, .slice sa sn sc, .int .u64 pn, .int .i64 pl] 29) := Lib.hid (HT6.out.blk2 (by simp) hk7 HH6.out)
              have Hb57 : Hid (Blk wt7 (wt1.heap.size) #[.bool true, .int .i64 ty, .int .u32 ve, .slice da dn dc, .slice sa sn sc, .int .u64 pn, .int .i64 pl] 29) := Lib.hid (HT6.out.blk2 (by simp) hk7 HQ6.out)
              have Hb127 : Hid (Blk wt7 (wt2.heap.size) #[.slice pa pm pc] 24) := Lib.hid (HT6.out.blk2 (by simp) hk7 HR6.out)
              clear hk7 hn7 hown7 hnil7
              refine ⟨(joinS HH7.out (HPA.out wt7 (HBW.out.trans (HB7.out.mono (by omega))))), ?_⟩
              refine wpAnyH_all (rs := [13]) (by kernel_rfl) (by simp) (fun j hj => ?_)
              obtain rfl : j = 13 := by simpa using hj
              clear hj
              refine op_app rfl (by kernel_rfl) (.tmp 76) (.tmp 81) 23 23 rfl base 24 js _ 1 24 Try.underlying23 js1 js2 js3 js4 rfl q3 L.length p3 (sls L) (by kernel_rfl) (.inl HT7.out.o3) (.slice (some ⟨wt2.heap.size, 0, none⟩) 1 1) (by kernel_rfl) 1 #[.slice pa pm pc].toList (src_blk Hb127.out Try.underlying23 rfl (by intro u hu; simp at hu; subst hu; rfl)) (by unfold maxLen; omega) (by omega) (by have := HB7.out.size; omega) ?_
              intro a3_8 c3_8 wt8 _ hk8 hn8 hown8 hnil8
              have HT8 : Hid (Tri base wt8 (wt2.heap.size :: (wt1.heap.size :: [hb])) a1_1 ((bys L).length + nb) c1_1 ((bys L) ++ X) a2_7 (L.length + 1) c2_7 ((hcs L) ++ #[.bool true, .int .i64 ty, .int .u32 ve, .slice da dn dc, .slice sa sn sc, .int .u64 pn, .int .i64 pl].toList) a3_8 (L.length + 1) c3_8 ((sls L) ++ #[.slice pa pm pc].toList)) := Lib.hid (HT7.out.app3 (hown8 (by decide)) hk8 hn8)
              have HB8 : Hid (Below base w1 wt8) := Lib.hid (Keeps.mine_below HB7.out hk8 (by have := HB7.out.size; omega) (Nat.le_refl _))
              have HH8 : Hid (Blk wt8 hb #[.bool true, .int .i64 ty, .int .u32 ve, .slice da dn dc, .slice sa sn sc, .int .u64 pn, .int .i64 pl] 29) := Lib.hid (HT7.out.blk3 (by simp) hk8 HH7.out)
              have Hb58 : Hid (Blk wt8 (wt1.heap.size) #[.bool true, .int .i64 ty, .int .u32 ve, .slice da dn dc, .slice sa sn sc, .int .u64 pn, .int .i64 pl] 29) := Lib.hid (HT7.out.blk3 (by simp) hk8 Hb57.out)
              have Hb128 : Hid (Blk wt8 (wt2.heap.size) #[.slice pa pm pc] 24) := Lib.hid (HT7.out.blk3 (by simp) hk8 Hb127.out)
              clear hk8 hn8 hown8 hnil8
              refine ⟨(joinS HH8.out (HPA.out wt8 (HBW.out.trans (HB8.out.mono (by omega))))), ?_⟩
              have hS := joinS HH8.out (HPA.out wt8 (HBW.out.trans (HB8.out.mono (by omega))))
              refine wpAnyH_take (i := 14) (v := ?_) rfl (by kernel_rfl) (by kernel_rfl) (by kernel_rfl) (fun _ _ _ h => h) (Or.inl ⟨by kernel_rfl, ?_⟩) hS ?_
              rotate_left
              · intro wz ⟨_, _, _, _, _, _, _, _⟩; go_simp; try with_reducible rfl
              refine wpAnyH_take (i := 15) (v := ?_) rfl (by kernel_rfl) (by kernel_rfl) (by kernel_rfl) (fun _ _ _ h => h) (Or.inl ⟨by kernel_rfl, ?_⟩) hS ?_
              rotate_left
              · intro wz ⟨_, _, _, _, _, _, _, _⟩; go_simp; try with_reducible rfl
              refine wpAnyH_take (i := 16) (v := ?_) rfl (by kernel_rfl) (by kernel_rfl) (by kernel_rfl) (fun _ _ _ h => h) (Or.inl ⟨by kernel_rfl, ?_⟩) hS ?_
              rotate_left
              · intro wz ⟨_, _, _, _, _, _, _, _⟩; go_simp; try with_reducible rfl
              refine wpAnyH_done (by kernel_rfl) ?_ _
              clear hS
              go_wp2_with fail
              obtain ⟨gk', rfl⟩ : ∃ gk', gk = gk' + 1 := ⟨gk - 1, by have := HI.out; omega⟩
              go_roundg gk'
              case measure => omega
              case rel => exact ⟨i + 1, L ++ [t0], a1_1, c1_1, a2_7, c2_7, a3_8, c3_8, by have := HI.out; omega, by go_num, by rw [HLB.out], by rw [HLL.out], by rw [HLL.out], by rw [HLL.out]; omega, HOKT.out, tri_snoc HT8.out HX2.out HTC.out HTS.out, HB8.out⟩
          · clear hj
            refine op_make (.slice (some ⟨wt1.heap.size, 0, none⟩) 1 1) (.cells #[.slice pa pm pc] 24 (0, 0)) rfl (by kernel_rfl) (by kernel_rfl) ?_
            intro wt9 hw9
            have HT9 : Hid (Tri base wt9 (wt1.heap.size :: [hb]) a1_1 ((bys L).length + nb) c1_1 ((bys L) ++ X) q2 L.length p2 (hcs L) q3 L.length p3 (sls L)) := Lib.hid (hw9 ▸ HT1.out.made (.cells #[.slice pa pm pc] 24 (0, 0)))
            have HB9 : Hid (Below base w1 wt9) := Lib.hid (hw9 ▸ HB1.out.alloc (by have := HB1.out.size; omega) _)
            have HH9 : Hid (Blk wt9 hb #[.bool true, .int .i64 ty, .int .u32 ve, .slice da dn dc, .slice sa sn sc, .int .u64 pn, .int .i64 pl] 29) := Lib.hid (hw9 ▸ Blk.alloc HH1.out _)
            have HR9 : Hid (Blk wt9 wt1.heap.size #[.slice pa pm pc] 24) := Lib.hid (hw9 ▸ Blk.new wt1 #[.slice pa pm pc] 24)
            clear hw9
            refine ⟨(joinS HH9.out (HPA.out wt9 (HBW.out.trans (HB9.out.mono (by omega))))), ?_⟩
            refine wpAnyH_all (rs := [5]) (by kernel_rfl) (by simp) (fun j hj => ?_)
            obtain rfl : j = 5 := by simpa using hj
            clear hj
            refine op_make (.slice (some ⟨wt9.heap.size, 0, none⟩) 1 1) (.cells #[.bool true, .int .i64 ty, .int .u32 ve, .slice da dn dc, .slice sa sn sc, .int .u64 pn, .int .i64 pl] 29 (0, 0)) rfl (by kernel_rfl) (by kernel_rfl) ?_
            intro wt10 hw10
            have HT10 : Hid (Tri base wt10 (wt9.heap.size :: (wt1.heap.size :: [hb])) a1_1 ((bys L).length + nb) c1_1 ((bys L) ++ X) q2 L.length p2 (hcs L) q3 L.length p3 (sls L)) := Lib.hid (hw10 ▸ HT9.out.made (.cells #[.bool true, .int .i64 ty, .int .u32 ve, .slice da dn dc, .slice sa sn sc, .int .u64 pn, .int .i64 pl] 29 (0, 0)))
            have HB10 : Hid (Below base w1 wt10) := Lib.hid (hw10 ▸ HB9.out.alloc (by have := HB9.out.size; omega) _)
            have HH10 : Hid (Blk wt10 hb #[.bool true, .int .i64 ty, .int .u32 ve, .slice da dn dc, .slice sa sn sc, .int .u64 pn, .int .i64 pl] 29) := Lib.hid (hw10 ▸ Blk.alloc HH9.out _)
            have HR10 : Hid (Blk wt10 wt9.heap.size #[.bool true, .int .i64 ty, .int .u32 ve, .slice da dn dc, .slice sa sn sc, .int .u64 pn, .int .i64 pl] 29) := Lib.hid (hw10 ▸ Blk.new wt9 #[.bool true, .int .i64 ty, .int .u32 ve, .slice da dn dc, .slice sa sn sc, .int .u64 pn, .int .i64 pl] 29)
            have HQ10 : Hid (Blk wt10 (wt1.heap.size) #[.slice pa pm pc] 24) := Lib.hid (hw10 ▸ Blk.alloc HR9.out _)
            clear hw10
            refine ⟨(joinS HH10.out (HPA.out wt10 (HBW.out.trans (HB10.out.mono (by omega))))), ?_⟩
            refine wpAnyH_all (rs := [6]) (by kernel_rfl) (by simp) (fun j hj => ?_)
            obtain rfl : j = 6 := by simpa using hj
            clear hj
            refine op_app rfl (by kernel_rfl) (.tmp 72) (.tmp 74) 22 22 rfl base 29 jh _ 7 88 Try.underlying22 jh1 jh2 jh3 jh4 rfl q2 L.length p2 (hcs L) (by kernel_rfl) (.inl HT10.out.o2) (.slice (some ⟨wt9.heap.size, 0, none⟩) 1 1) (by kernel_rfl) 1 #[.bool true, .int .i64 ty, .int .u32 ve, .slice da dn dc, .slice sa sn sc, .int .u64 pn, .int .i64 pl].toList (src_blk HR10.out Try.underlying22 rfl (by intro u hu; simp at hu; rcases hu with rfl | rfl | rfl | rfl | rfl | rfl | rfl <;> rfl)) (by unfold maxLen; omega) (by omega) (by have := HB10.out.size; omega) ?_
            intro a2_11 c2_11 wt11 _ hk11 hn11 hown11 hnil11
            have HT11 : Hid (Tri base wt11 (wt9.heap.size :: (wt1.heap.size :: [hb])) a1_1 ((bys L).length + nb) c1_1 ((bys L) ++ X) a2_11 (L.length + 1) c2_11 ((hcs L) ++ #[.bool true, .int .i64 ty, .int .u32 ve, .slice da dn dc, .slice sa sn sc, .int .u64 pn, .int .i64 pl].toList) q3 L.length p3 (sls L)) := Lib.hid (HT10.out.app2 (hown11 (by decide)) hk11 hn11)
            have HB11 : Hid (Below base w1 wt11) := Lib.hid (Keeps.mine_below HB10.out hk11 (by have := HB10.out.size; omega) (Nat.le_refl _))
            have HH11 : Hid (Blk wt11 hb #[.bool true, .int .i64 ty, .int .u32 ve, .slice da dn dc, .slice sa sn sc, .int .u64 pn, .int .i64 pl] 29) := Lib.hid (HT10.out.blk2 (by simp) hk11 HH10.out)
            have Hb511 : Hid (Blk wt11 (wt9.heap.size) #[.bool true, .int .i64 ty, .int .u32 ve, .slice da dn dc, .slice sa sn sc, .int .u64 pn, .int .i64 pl] 29) := Lib.hid (HT10.out.blk2 (by simp) hk11 HR10.out)
            have Hb1211 : Hid (Blk wt11 (wt1.heap.size) #[.slice pa pm pc] 24) := Lib.hid (HT10.out.blk2 (by simp) hk11 HQ10.out)
            clear hk11 hn11 hown11 hnil11
            refine ⟨(joinS HH11.out (HPA.out wt11 (HBW.out.trans (HB11.out.mono (by omega))))), ?_⟩
            refine wpAnyH_all (rs := [13]) (by kernel_rfl) (by simp) (fun j hj => ?_)
            obtain rfl : j = 13 := by simpa using hj
            clear hj
            refine op_app rfl (by kernel_rfl) (.tmp 76) (.tmp 81) 23 23 rfl base 24 js _ 1 24 Try.underlying23 js1 js2 js3 js4 rfl q3 L.length p3 (sls L) (by kernel_rfl) (.inl HT11.out.o3) (.slice (some ⟨wt1.heap.size, 0, none⟩) 1 1) (by kernel_rfl) 1 #[.slice pa pm pc].toList (src_blk Hb1211.out Try.underlying23 rfl (by intro u hu; simp at hu; subst hu; rfl)) (by unfold maxLen; omega) (by omega) (by have := HB11.out.size; omega) ?_
            intro a3_12 c3_12 wt12 _ hk12 hn12 hown12 hnil12
            have HT12 : Hid (Tri base wt12 (wt9.heap.size :: (wt1.heap.size :: [hb])) a1_1 ((bys L).length + nb) c1_1 ((bys L) ++ X) a2_11 (L.length + 1) c2_11 ((hcs L) ++ #[.bool true, .int .i64 ty, .int .u32 ve, .slice da dn dc, .slice sa sn sc, .int .u64 pn, .int .i64 pl].toList) a3_12 (L.length + 1) c3_12 ((sls L) ++ #[.slice pa pm pc].toList)) := Lib.hid (HT11.out.app3 (hown12 (by decide)) hk12 hn12)
            have HB12 : Hid (Below base w1 wt12) := Lib.hid (Keeps.mine_below HB11.out hk12 (by have := HB11.out.size; omega) (Nat.le_refl _))
            have HH12 : Hid (Blk wt12 hb #[.bool true, .int .i64 ty, .int .u32 ve, .slice da dn dc, .slice sa sn sc, .int .u64 pn, .int .i64 pl] 29) := Lib.hid (HT11.out.blk3 (by simp) hk12 HH11.out)
            have Hb512 : Hid (Blk wt12 (wt9.heap.size) #[.bool true, .int .i64 ty, .int .u32 ve, .slice da dn dc, .slice sa sn sc, .int .u64 pn, .int .i64 pl] 29) := Lib.hid (HT11.out.blk3 (by simp) hk12 Hb511.out)
            have Hb1212 : Hid (Blk wt12 (wt1.heap.size) #[.slice pa pm pc] 24) := Lib.hid (HT11.out.blk3 (by simp) hk12 Hb1211.out)
            clear hk12 hn12 hown12 hnil12
            refine ⟨(joinS HH12.out (HPA.out wt12 (HBW.out.trans (HB12.out.mono (by omega))))), ?_⟩
            have hS := joinS HH12.out (HPA.out wt12 (HBW.out.trans (HB12.out.mono (by omega))))
            refine wpAnyH_take (i := 14) (v := ?_) rfl (by kernel_rfl) (by kernel_rfl) (by kernel_rfl) (fun _ _ _ h => h) (Or.inl ⟨by kernel_rfl, ?_⟩) hS ?_
            rotate_left
            · intro wz ⟨_, _, _, _, _, _, _, _⟩; go_simp; try with_reducible rfl
            refine wpAnyH_take (i := 15) (v := ?_) rfl (by kernel_rfl) (by kernel_rfl) (by kernel_rfl) (fun _ _ _ h => h) (Or.inl ⟨by kernel_rfl, ?_⟩) hS ?_
            rotate_left
            · intro wz ⟨_, _, _, _, _, _, _, _⟩; go_simp; try with_reducible rfl
            refine wpAnyH_take (i := 16) (v := ?_) rfl (by kernel_rfl) (by kernel_rfl) (by kernel_rfl) (fun _ _ _ h => h) (Or.inl ⟨by kernel_rfl, ?_⟩) hS ?_
            rotate_left
            · intro wz ⟨_, _, _, _, _, _, _, _⟩; go_simp; try with_reducible rfl
            refine wpAnyH_done (by kernel_rfl) ?_ _
            clear hS
            go_wp2_with fail
            obtain ⟨gk', rfl⟩ : ∃ gk', gk = gk' + 1 := ⟨gk - 1, by have := HI.out; omega⟩
            go_roundg gk'
            case measure => omega
            case rel => exact ⟨i + 1, L ++ [t0], a1_1, c1_1, a2_11, c2_11, a3_12, c3_12, by have := HI.out; omega, by go_num, by rw [HLB.out], by rw [HLL.out], by rw [HLL.out], by rw [HLL.out]; omega, HOKT.out, tri_snoc HT12.out HX2.out HTC.out HTS.out, HB12.out⟩
        · clear hj
          refine op_make (.slice (some ⟨w7.heap.size, 0, none⟩) 1 1) (.cells #[.bool true, .int .i64 ty, .int .u32 ve, .slice da dn dc, .slice sa sn sc, .int .u64 pn, .int .i64 pl] 29 (0, 0)) rfl (by kernel_rfl) (by kernel_rfl) ?_
          intro wt13 hw13
          have HT13 : Hid (Tri base wt13 (w7.heap.size :: [hb]) q1 (bys L).length p1 (bys L) q2 L.length p2 (hcs L) q3 L.length p3 (sls L)) := Lib.hid (hw13 ▸ HT7.out.made (.cells #[.bool true, .int .i64 ty, .int .u32 ve, .slice da dn dc, .slice sa sn sc, .int .u64 pn, .int .i64 pl] 29 (0, 0)))
          have HB13 : Hid (Below base w1 wt13) := Lib.hid (hw13 ▸ HB7.out.alloc (by have := HB7.out.size; omega) _)
          have HH13 : Hid (Blk wt13 hb #[.bool true, .int .i64 ty, .int .u32 ve, .slice da dn dc, .slice sa sn sc, .int .u64 pn, .int .i64 pl] 29) := Lib.hid (hw13 ▸ Blk.alloc HH7.out _)
          have HR13 : Hid (Blk wt13 w7.heap.size #[.bool true, .int .i64 ty, .int .u32 ve, .slice da dn dc, .slice sa sn sc, .int .u64 pn, .int .i64 pl] 29) := Lib.hid (hw13 ▸ Blk.new w7 #[.bool true, .int .i64 ty, .int .u32 ve, .slice da dn dc, .slice sa sn sc, .int .u64 pn, .int .i64 pl] 29)
          have HY13 : Hid (By wt13 ab nb cb X) := Lib.hid (hw13 ▸ HY7.out.alloc _)
          clear hw13
          refine ⟨(joinS HH13.out (HPA.out wt13 (HBW.out.trans (HB13.out.mono (by omega))))), ?_⟩
          refine wpAnyH_all (rs := [2, 12]) (by kernel_rfl) (by simp) (fun j hj => ?_)
          rcases (by simpa using hj : j = 2 ∨ j = 12) with rfl | rfl
          · clear hj
            refine op_app rfl (by kernel_rfl) (.tmp 69) (.tmp 70) 24 24 rfl base 5 j8 _ 1 1 Try.underlying24 j81 j82 j83 j84 rfl q1 (bys L).length p1 (Bs (bys L)) (by kernel_rfl) (.inl HT13.out.o1.2) (.slice ab nb cb) (by kernel_rfl) nb (Bs X) (HY13.out.2.src Try.underlying24 (Bs_one _)) (by unfold maxLen; omega) (by omega) (by have := HB13.out.size; omega) ?_
            intro a1_14 c1_14 wt14 _ hk14 hn14 hown14 hnil14
            have HT14 : Hid (Tri base wt14 (w7.heap.size :: [hb]) a1_14 ((bys L).length + nb) c1_14 ((bys L) ++ X) q2 L.length p2 (hcs L) q3 L.length p3 (sls L)) := Lib.hid (HT13.out.app1 (own_app HT13.out.o1 HY13.out.1 hown14 hnil14) hk14 hn14)
            have HB14 : Hid (Below base w1 wt14) := Lib.hid (Keeps.mine_below HB13.out hk14 (by have := HB13.out.size; omega) (Nat.le_refl _))
            have HH14 : Hid (Blk wt14 hb #[.bool true, .int .i64 ty, .int .u32 ve, .slice da dn dc, .slice sa sn sc, .int .u64 pn, .int .i64 pl] 29) := Lib.hid (HT13.out.blk1 (by simp) hk14 HH13.out)
            have Hb514 : Hid (Blk wt14 (w7.heap.size) #[.bool true, .int .i64 ty, .int .u32 ve, .slice da dn dc, .slice sa sn sc, .int .u64 pn, .int .i64 pl] 29) := Lib.hid (HT13.out.blk1 (by simp) hk14 HR13.out)
            clear hk14 hn14 hown14 hnil14
            refine ⟨(joinS HH14.out (HPA.out wt14 (HBW.out.trans (HB14.out.mono (by omega))))), ?_⟩
            refine wpAnyH_all (rs := [6, 12]) (by kernel_rfl) (by simp) (fun j hj => ?_)
            rcases (by simpa using hj : j = 6 ∨ j = 12) with rfl | rfl
            · clear hj
              refine op_app rfl (by kernel_rfl) (.tmp 72) (.tmp 74) 22 22 rfl base 29 jh _ 7 88 Try.underlying22 jh1 jh2 jh3 jh4 rfl q2 L.length p2 (hcs L) (by kernel_rfl) (.inl HT14.out.o2) (.slice (some ⟨w7.heap.size, 0, none⟩) 1 1) (by kernel_rfl) 1 #[.bool true, .int .i64 ty, .int .u32 ve, .slice da dn dc, .slice sa sn sc, .int .u64 pn, .int .i64 pl].toList (src_blk Hb514.out Try.underlying22 rfl (by intro u hu; simp at hu; rcases hu with rfl | rfl | rfl | rfl | rfl | rfl | rfl <;> rfl)) (by unfold maxLen; omega) (by omega) (by have := HB14.out.size; omega) ?_
              intro a2_15 c2_15 wt15 _ hk15 hn15 hown15 hnil15
              have HT15 : Hid (Tri base wt15 (w7.heap.size :: [hb]) a1_14 ((bys L).length + nb) c1_14 ((bys L) ++ X) a2_15 (L.length + 1) c2_15 ((hcs L) ++ #[.bool true, .int .i64 ty, .int .u32 ve, .slice da dn dc, .slice sa sn sc, .int .u64 pn, .int .i64 pl].toList) q3 L.length p3 (sls L)) := Lib.hid (HT14.out.app2 (hown15 (by decide)) hk15 hn15)
              have HB15 : Hid (Below base w1 wt15) := Lib.hid (Keeps.mine_below HB14.out hk15 (by have := HB14.out.size; omega) (Nat.le_refl _))
              have HH15 : Hid (Blk wt15 hb #[.bool true, .int .i64 ty, .int .u32 ve, .slice da dn dc, .slice sa sn sc, .int .u64 pn, .int .i64 pl] 29) := Lib.hid (HT14.out.blk2 (by simp) hk15 HH14.out)
              have Hb515 : Hid (Blk wt15 (w7.heap.size) #[.bool true, .int .i64 ty, .int .u32 ve, .slice da dn dc, .slice sa sn sc, .int .u64 pn, .int .i64 pl] 29) := Lib.hid (HT14.out.blk2 (by simp) hk15 Hb514.out)
              clear hk15 hn15 hown15 hnil15
              refine ⟨(joinS HH15.out (HPA.out wt15 (HBW.out.trans (HB15.out.mono (by omega))))), ?_⟩
              refine wpAnyH_all (rs := [12]) (by kernel_rfl) (by simp) (fun j hj => ?_)
              obtain rfl : j = 12 := by simpa using hj
              clear hj
              refine op_make (.slice (some ⟨wt15.heap.size, 0, none⟩) 1 1) (.cells #[.slice pa pm pc] 24 (0, 0)) rfl (by kernel_rfl) (by kernel_rfl) ?_
              intro wt16 hw16
              have HT16 : Hid (Tri base wt16 (wt15.heap.size :: (w7.heap.size :: [hb])) a1_14 ((bys L).length + nb) c1_14 ((bys L) ++ X) a2_15 (L.length + 1) c2_15 ((hcs L) ++ #[.bool true, .int .i64 ty, .int .u32 ve, .slice da dn dc, .slice sa sn sc, .int .u64 pn, .int .i64 pl].toList) q3 L.length p3 (sls L)) := Lib.hid (hw16 ▸ HT15.out.made (.cells #[.slice pa pm pc] 24 (0, 0)))
              have HB16 : Hid (Below base w1 wt16) := Lib.hid (hw16 ▸ HB15.out.alloc (by have := HB15.out.size; omega) _)
              have HH16 : Hid (Blk wt16 hb #[.bool true, .int .i64 ty, .int .u32 ve, .slice da dn dc, .slice sa sn sc, .int .u64 pn, .int .i64 pl] 29) := Lib.hid (hw16 ▸ Blk.alloc HH15.out _)
              have HR16 : Hid (Blk wt16 wt15.heap.size #[.slice pa pm pc] 24) := Lib.hid (hw16 ▸ Blk.new wt15 #[.slice pa pm pc] 24)
              have HQ16 : Hid (Blk wt16 (w7.heap.size) #[.bool true, .int .i64 ty, .int .u32 ve, .slice da dn dc, .slice sa sn sc, .int .u64 pn, .int .i64 pl] 29) := Lib.hid (hw16 ▸ Blk.alloc Hb515.out _)
              clear hw16
              refine ⟨(joinS HH16.out (HPA.out wt16 (HBW.out.trans (HB16.out.mono (by omega))))), ?_⟩
              refine wpAnyH_all (rs := [13]) (by kernel_rfl) (by simp) (fun j hj => ?_)
              obtain rfl : j = 13 := by simpa using hj
              clear hj
              refine op_app rfl (by kernel_rfl) (.tmp 76) (.tmp 81) 23 23 rfl base 24 js _ 1 24 Try.underlying23 js1 js2 js3 js4 rfl q3 L.length p3 (sls L) (by kernel_rfl) (.inl HT16.out.o3) (.slice (some ⟨wt15.heap.size, 0, none⟩) 1 1) (by kernel_rfl) 1 #[.slice pa pm pc].toList (src_blk HR16.out Try.underlying23 rfl (by intro u hu; simp at hu; subst hu; rfl)) (by unfold maxLen; omega) (by omega) (by have := HB16.out.size; omega) ?_
              intro a3_17 c3_17 wt17 _ hk17 hn17 hown17 hnil17
              have HT17 : Hid (Tri base wt17 (wt15.heap.size :: (w7.heap.size :: [hb])) a1_14 ((bys L).length + nb) c1_14 ((bys L) ++ X) a2_15 (L.length + 1) c2_15 ((hcs L) ++ #[.bool true, .int .i64 ty, .int .u32 ve, .slice da dn dc, .slice sa sn sc, .int .u64 pn, .int .i64 pl].toList) a3_17 (L.length + 1) c3_17 ((sls L) ++ #[.slice pa pm pc].toList)) := Lib.hid (HT16.out.app3 (hown17 (by decide)) hk17 hn17)
              have HB17 : Hid (Below base w1 wt17) := Lib.hid (Keeps.mine_below HB16.out hk17 (by have := HB16.out.size; omega) (Nat.le_refl _))
              have HH17 : Hid (Blk wt17 hb #[.bool true, .int .i64 ty, .int .u32 ve, .slice da dn dc, .slice sa sn sc, .int .u64 pn, .int .i64 pl] 29) := Lib.hid (HT16.out.blk3 (by simp) hk17 HH16.out)
              have Hb517 : Hid (Blk wt17 (w7.heap.size) #[.bool true, .int .i64 ty, .int .u32 ve, .slice da dn dc, .slice sa sn sc, .int .u64 pn, .int .i64 pl] 29) := Lib.hid (HT16.out.blk3 (by simp) hk17 HQ16.out)
              have Hb1217 : Hid (Blk wt17 (wt15.heap.size) #[.slice pa pm pc] 24) := Lib.hid (HT16.out.blk3 (by simp) hk17 HR16.out)
              clear hk17 hn17 hown17 hnil17
              refine ⟨(joinS HH17.out (HPA.out wt17 (HBW.out.trans (HB17.out.mono (by omega))))), ?_⟩
              have hS := joinS HH17.out (HPA.out wt17 (HBW.out.trans (HB17.out.mono (by omega))))
              refine wpAnyH_take (i := 14) (v := ?_) rfl (by kernel_rfl) (by kernel_rfl) (by kernel_rfl) (fun _ _ _ h => h) (Or.inl ⟨by kernel_rfl, ?_⟩) hS ?_
              rotate_left
              · intro wz ⟨_, _, _, _, _, _, _, _⟩; go_simp; try with_reducible rfl
              refine wpAnyH_take (i := 15) (v := ?_) rfl (by kernel_rfl) (by kernel_rfl) (by kernel_rfl) (fun _ _ _ h => h) (Or.inl ⟨by kernel_rfl, ?_⟩) hS ?_
              rotate_left
              · intro wz ⟨_, _, _, _, _, _, _, _⟩; go_simp; try with_reducible rfl
              refine wpAnyH_take (i := 16) (v := ?_) rfl (by kernel_rfl) (by kernel_rfl) (by kernel_rfl) (fun _ _ _ h => h) (Or.inl ⟨by kernel_rfl, ?_⟩) hS ?_
              rotate_left
              · intro wz ⟨_, _, _, _, _, _, _, _⟩; go_simp; try with_reducible rfl
              refine wpAnyH_done (by kernel_rfl) ?_ _
              clear hS
              go_wp2_with fail
              obtain ⟨gk', rfl⟩ : ∃ gk', gk = gk' + 1 := ⟨gk - 1, by have := HI.out; omega⟩
              go_roundg gk'
              case measure => omega
              case rel => exact ⟨i + 1, L ++ [t0], a1_14, c1_14, a2_15, c2_15, a3_17, c3_17, by have := HI.out; omega, by go_num, by rw [HLB.out], by rw [HLL.out], by rw [HLL.out], by rw [HLL.out]; omega, HOKT.out, tri_snoc HT17.out HX2.out HTC.out HTS.out, HB17.out⟩
            · clear hj
              refine op_make (.slice (some ⟨wt14.heap.size, 0, none⟩) 1 1) (.cells #[.slice pa pm pc] 24 (0, 0)) rfl (by kernel_rfl) (by kernel_rfl) ?_
              intro wt18 hw18
              have HT18 : Hid (Tri base wt18 (wt14.heap.size :: (w7.heap.size :: [hb])) a1_14 ((bys L).length + nb) c1_14 ((bys L) ++ X) q2 L.length p2 (hcs L) q3 L.length p3 (sls L)) := Lib.hid (hw18 ▸ HT14.out.made (.cells #[.slice pa pm pc] 24 (0, 0)))
              have HB18 : Hid (Below base w1 wt18) := Lib.hid (hw18 ▸ HB14.out.alloc (by have := HB14.out.size; omega) _)
              have HH18 : Hid (Blk wt18 hb #[.bool true, .int .i64 ty, .int .u32 ve, .slice da dn dc, .slice sa sn sc, .int .u64 pn, .int .i64 pl] 29) := Lib.hid (hw18 ▸ Blk.alloc HH14.out _)
              have HR18 : Hid (Blk wt18 wt14.heap.size #[.slice pa pm pc] 24) := Lib.hid (hw18 ▸ Blk.new wt14 #[.slice pa pm pc] 24)
              have HQ18 : Hid (Blk wt18 (w7.heap.size) #[.bool true, .int .i64 ty, .int .u32 ve, .slice da dn dc, .slice sa sn sc, .int .u64 pn, .int .i64 pl] 29) := Lib.hid (hw18 ▸ Blk.alloc Hb514.out _)
              clear hw18
              refine ⟨(joinS HH18.out (HPA.out wt18 (HBW.out.trans (HB18.out.mono (by omega))))), ?_⟩
              refine wpAnyH_all (rs := [6]) (by kernel_rfl) (by simp) (fun j hj => ?_)
              obtain rfl : j = 6 := by simpa using hj
              clear hj
              refine op_app rfl (by kernel_rfl) (.tmp 72) (.tmp 74) 22 22 rfl base 29 jh _ 7 88 Try.underlying22 jh1 jh2 jh3 jh4 rfl q2 L.length p2 (hcs L) (by kernel_rfl) (.inl HT18.out.o2) (.slice (some ⟨w7.heap.size, 0, none⟩) 1 1) (by kernel_rfl) 1 #[.bool true, .int .i64 ty, .int .u32 ve, .slice da dn dc, .slice sa sn sc, .int .u64 pn, .int .i64 pl].toList (src_blk HQ18.out Try.underlying22 rfl (by intro u hu; simp at hu; rcases hu with rfl | rfl | rfl | rfl | rfl | rfl | rfl <;> rfl)) (by unfold maxLen; omega) (by omega) (by have := HB18.out.size; omega) ?_
              intro a2_19 c2_19 wt19 _ hk19 hn19 hown19 hnil19
              have HT19 : Hid (Tri base wt19 (wt14.heap.size :: (w7.heap.size :: [hb])) a1_14 ((bys L).length + nb) c1_14 ((bys L) ++ X) a2_19 (L.length + 1) c2_19 ((hcs L) ++ #[.bool true, .int .i64 ty, .int .u32 ve, .slice da dn dc, .slice sa sn sc, .int .u64 pn, .int .i64 pl].toList) q3 L.length p3 (sls L)) := Lib.hid (HT18.out.app2 (hown19 (by decide)) hk19 hn19)
              have HB19 : Hid (Below base w1 wt19) := Lib.hid (Keeps.mine_below HB18.out hk19 (by have := HB18.out.size; omega) (Nat.le_refl _))
              have HH19 : Hid (Blk wt19 hb #[.bool true, .int .i64 ty, .int .u32 ve, .slice da dn dc, .slice sa sn sc, .int .u64 pn, .int .i64 pl] 29) := Lib.hid (HT18.out.blk2 (by simp) hk19 HH18.out)
              have Hb519 : Hid (Blk wt19 (w7.heap.size) #[.bool true, .int .i64 ty, .int .u32 ve, .slice da dn dc, .slice sa sn sc, .int .u64 pn, .int .i64 pl] 29) := Lib.hid (HT18.out.blk2 (by simp) hk19 HQ18.out)
              have Hb1219 : Hid (Blk wt19 (wt14.heap.size) #[.slice pa pm pc] 24) := Lib.hid (HT18.out.blk2 (by simp) hk19 HR18.out)
              clear hk19 hn19 hown19 hnil19
              refine ⟨(joinS HH19.out (HPA.out wt19 (HBW.out.trans (HB19.out.mono (by omega))))), ?_⟩
              refine wpAnyH_all (rs := [13]) (by kernel_rfl) (by simp) (fun j hj => ?_)
              obtain rfl : j = 13 := by simpa using hj
              clear hj
              refine op_app rfl (by kernel_rfl) (.tmp 76) (.tmp 81) 23 23 rfl base 24 js _ 1 24 Try.underlying23 js1 js2 js3 js4 rfl q3 L.length p3 (sls L) (by kernel_rfl) (.inl HT19.out.o3) (.slice (some ⟨wt14.heap.size, 0, none⟩) 1 1) (by kernel_rfl) 1 #[.slice pa pm pc].toList (src_blk Hb1219.out Try.underlying23 rfl (by intro u hu; simp at hu; subst hu; rfl)) (by unfold maxLen; omega) (by omega) (by have := HB19.out.size; omega) ?_
              intro a3_20 c3_20 wt20 _ hk20 hn20 hown20 hnil20
              have HT20 : Hid (Tri base wt20 (wt14.heap.size :: (w7.heap.size :: [hb])) a1_14 ((bys L).length + nb) c1_14 ((bys L) ++ X) a2_19 (L.length + 1) c2_19 ((hcs L) ++ #[.bool true, .int .i64 ty, .int .u32 ve, .slice da dn dc, .slice sa sn sc, .int .u64 pn, .int .i64 pl].toList) a3_20 (L.length + 1) c3_20 ((sls L) ++ #[.slice pa pm pc].toList)) := Lib.hid (HT19.out.app3 (hown20 (by decide)) hk20 hn20)
              have HB20 : Hid (Below base w1 wt20) := Lib.hid (Keeps.mine_below HB19.out hk20 (by have := HB19.out.size; omega) (Nat.le_refl _))
              have HH20 : Hid (Blk wt20 hb #[.bool true, .int .i64 ty, .int .u32 ve, .slice da dn dc, .slice sa sn sc, .int .u64 pn, .int .i64 pl] 29) := Lib.hid (HT19.out.blk3 (by simp) hk20 HH19.out)
              have Hb520 : Hid (Blk wt20 (w7.heap.size) #[.bool true, .int .i64 ty, .int .u32 ve, .slice da dn dc, .slice sa sn sc, .int .u64 pn, .int .i64 pl] 29) := Lib.hid (HT19.out.blk3 (by simp) hk20 Hb519.out)
              have Hb1220 : Hid (Blk wt20 (wt14.heap.size) #[.slice pa pm pc] 24) := Lib.hid (HT19.out.blk3 (by simp) hk20 Hb1219.out)
              clear hk20 hn20 hown20 hnil20
              refine ⟨(joinS HH20.out (HPA.out wt20 (HBW.out.trans (HB20.out.mono (by omega))))), ?_⟩
              have hS := joinS HH20.out (HPA.out wt20 (HBW.out.trans (HB20.out.mono (by omega))))
              refine wpAnyH_take (i := 14) (v := ?_) rfl (by kernel_rfl) (by kernel_rfl) (by kernel_rfl) (fun _ _ _ h => h) (Or.inl ⟨by kernel_rfl, ?_⟩) hS ?_
              rotate_left
              · intro wz ⟨_, _, _, _, _, _, _, _⟩; go_simp; try with_reducible rfl
              refine wpAnyH_take (i := 15) (v := ?_) rfl (by kernel_rfl) (by kernel_rfl) (by kernel_rfl) (fun _ _ _ h => h) (Or.inl ⟨by kernel_rfl, ?_⟩) hS ?_
              rotate_left
              · intro wz ⟨_, _, _, _, _, _, _, _⟩; go_simp; try with_reducible rfl
              refine wpAnyH_take (i := 16) (v := ?_) rfl (by kernel_rfl) (by kernel_rfl) (by kernel_rfl) (fun _ _ _ h => h) (Or.inl ⟨by kernel_rfl, ?_⟩) hS ?_
              rotate_left
              · intro wz ⟨_, _, _, _, _, _, _, _⟩; go_simp; try with_reducible rfl
              refine wpAnyH_done (by kernel_rfl) ?_ _
              clear hS
              go_wp2_with fail
              obtain ⟨gk', rfl⟩ : ∃ gk', gk = gk' + 1 := ⟨gk - 1, by have := HI.out; omega⟩
              go_roundg gk'
              case measure => omega
              case rel => exact ⟨i + 1, L ++ [t0], a1_14, c1_14, a2_19, c2_19, a3_20, c3_20, by have := HI.out; omega, by go_num, by rw [HLB.out], by rw [HLL.out], by rw [HLL.out], by rw [HLL.out]; omega, HOKT.out, tri_snoc HT20.out HX2.out HTC.out HTS.out, HB20.out⟩
          · clear hj
            refine op_make (.slice (some ⟨wt13.heap.size, 0, none⟩) 1 1) (.cells #[.slice pa pm pc] 24 (0, 0)) rfl (by kernel_rfl) (by kernel_rfl) ?_
            intro wt21 hw21
            have HT21 : Hid (Tri base wt21 (wt13.heap.size :: (w7.heap.size :: [hb])) q1 (bys L).length p1 (bys L) q2 L.length p2 (hcs L) q3 L.length p3 (sls L)) := Lib.hid (hw21 ▸ HT13.out.made (.cells #[.slice pa pm pc] 24 (0, 0)))
            have HB21 : Hid (Below base w1 wt21) := Lib.hid (hw21 ▸ HB13.out.alloc (by have := HB13.out.size; omega) _)
            have HH21 : Hid (Blk wt21 hb #[.bool true, .int .i64 ty, .int .u32 ve, .slice da dn dc, .slice sa sn sc, .int .u64 pn, .int .i64 pl] 29) := Lib.hid (hw21 ▸ Blk.alloc HH13.out _)
            have HR21 : Hid (Blk wt21 wt13.heap.size #[.slice pa pm pc] 24) := Lib.hid (hw21 ▸ Blk.new wt13 #[.slice pa pm pc] 24)
            have HQ21 : Hid (Blk wt21 (w7.heap.size) #[.bool true, .int .i64 ty, .int .u32 ve, .slice da dn dc, .slice sa sn sc, .int .u64 pn, .int .i64 pl] 29) := Lib.hid (hw21 ▸ Blk.alloc HR13.out _)
            have HY21 : Hid (By wt21 ab nb cb X) := Lib.hid (hw21 ▸ HY13.out.alloc _)
            clear hw21
            refine ⟨(joinS HH21.out (HPA.out wt21 (HBW.out.trans (HB21.out.mono (by omega))))), ?_⟩
            refine wpAnyH_all (rs := [2]) (by kernel_rfl) (by simp) (fun j hj => ?_)
            obtain rfl : j = 2 := by simpa using hj
            clear hj
            refine op_app rfl (by kernel_rfl) (.tmp 69) (.tmp 70) 24 24 rfl base 5 j8 _ 1 1 Try.underlying24 j81 j82 j83 j84 rfl q1 (bys L).length p1 (Bs (bys L)) (by kernel_rfl) (.inl HT21.out.o1.2) (.slice ab nb cb) (by kernel_rfl) nb (Bs X) (HY21.out.2.src Try.underlying24 (Bs_one _)) (by unfold maxLen; omega) (by omega) (by have := HB21.out.size; omega) ?_
            intro a1_22 c1_22 wt22 _ hk22 hn22 hown22 hnil22
            have HT22 : Hid (Tri base wt22 (wt13.heap.size :: (w7.heap.size :: [hb])) a1_22 ((bys L).length + nb) c1_22 ((bys L) ++ X) q2 L.length p2 (hcs L) q3 L.length p3 (sls L)) := Lib.hid (HT21.out.app1 (own_app HT21.out.o1 HY21.out.1 hown22 hnil22) hk22 hn22)
            have HB22 : Hid (Below base w1 wt22) := Lib.hid (Keeps.mine_below HB21.out hk22 (by have := HB21.out.size; omega) (Nat.le_refl _))
            have HH22 : Hid (Blk wt22 hb #[.bool true, .int .i64 ty, .int .u32 ve, .slice da dn dc, .slice sa sn sc, .int .u64 pn, .int .i64 pl] 29) := Lib.hid (HT21.out.blk1 (by simp) hk22 HH21.out)
            have Hb522 : Hid (Blk wt22 (w7.heap.size) #[.bool true, .int .i64 ty, .int .u32 ve, .slice da dn dc, .slice sa sn sc, .int .u64 pn, .int .i64 pl] 29) := Lib.hid (HT21.out.blk1 (by simp) hk22 HQ21.out)
            have Hb1222 : Hid (Blk wt22 (wt13.heap.size) #[.slice pa pm pc] 24) := Lib.hid (HT21.out.blk1 (by simp) hk22 HR21.out)
            clear hk22 hn22 hown22 hnil22
            refine ⟨(joinS HH22.out (HPA.out wt22 (HBW.out.trans (HB22.out.mono (by omega))))), ?_⟩
            refine wpAnyH_all (rs := [6]) (by kernel_rfl) (by simp) (fun j hj => ?_)
            obtain rfl : j = 6 := by simpa using hj
            clear hj
            refine op_app rfl (by kernel_rfl) (.tmp 72) (.tmp 74) 22 22 rfl base 29 jh _ 7 88 Try.underlying22 jh1 jh2 jh3 jh4 rfl q2 L.length p2 (hcs L) (by kernel_rfl) (.inl HT22.out.o2) (.slice (some ⟨w7.heap.size, 0, none⟩) 1 1) (by kernel_rfl) 1 #[.bool true, .int .i64 ty, .int .u32 ve, .slice da dn dc, .slice sa sn sc, .int .u64 pn, .int .i64 pl].toList (src_blk Hb522.out Try.underlying22 rfl (by intro u hu; simp at hu; rcases hu with rfl | rfl | rfl | rfl | rfl | rfl | rfl <;> rfl)) (by unfold maxLen; omega) (by omega) (by have := HB22.out.size; omega) ?_
            intro a2_23 c2_23 wt23 _ hk23 hn23 hown23 hnil23
            have HT23 : Hid (Tri base wt23 (wt13.heap.size :: (w7.heap.size :: [hb])) a1_22 ((bys L).length + nb) c1_22 ((bys L) ++ X) a2_23 (L.length + 1) c2_23 ((hcs L) ++ #[.bool true, .int .i64 ty, .int .u32 ve, .slice da dn dc, .slice sa sn sc, .int .u64 pn, .int .i64 pl].toList) q3 L.length p3 (sls L)) := Lib.hid (HT22.out.app2 (hown23 (by decide)) hk23 hn23)
            have HB23 : Hid (Below base w1 wt23) := Lib.hid (Keeps.mine_below HB22.out hk23 (by have := HB22.out.size; omega) (Nat.le_refl _))
            have HH23 : Hid (Blk wt23 hb #[.bool true, .int .i64 ty, .int .u32 ve, .slice da dn dc, .slice sa sn sc, .int .u64 pn, .int .i64 pl] 29) := Lib.hid (HT22.out.blk2 (by simp) hk23 HH22.out)
            have Hb523 : Hid (Blk wt23 (w7.heap.size) #[.bool true, .int .i64 ty, .int .u32 ve, .slice da dn dc, .slice sa sn sc, .int .u64 pn, .int .i64 pl] 29) := Lib.hid (HT22.out.blk2 (by simp) hk23 Hb522.out)
            have Hb1223 : Hid (Blk wt23 (wt13.heap.size) #[.slice pa pm pc] 24) := Lib.hid (HT22.out.blk2 (by simp) hk23 Hb1222.out)
            clear hk23 hn23 hown23 hnil23
            refine ⟨(joinS HH23.out (HPA.out wt23 (HBW.out.trans (HB23.out.mono (by omega))))), ?_⟩
            refine wpAnyH_all (rs := [13]) (by kernel_rfl) (by simp) (fun j hj => ?_)
            obtain rfl : j = 13 := by simpa using hj
            clear hj
            refine op_app rfl (by kernel_rfl) (.tmp 76) (.tmp 81) 23 23 rfl base 24 js _ 1 24 Try.underlying23 js1 js2 js3 js4 rfl q3 L.length p3 (sls L) (by kernel_rfl) (.inl HT23.out.o3) (.slice (some ⟨wt13.heap.size, 0, none⟩) 1 1) (by kernel_rfl) 1 #[.slice pa pm pc].toList (src_blk Hb1223.out Try.underlying23 rfl (by intro u hu; simp at hu; subst hu; rfl)) (by unfold maxLen; omega) (by omega) (by have := HB23.out.size; omega) ?_
            intro a3_24 c3_24 wt24 _ hk24 hn24 hown24 hnil24
            have HT24 : Hid (Tri base wt24 (wt13.heap.size :: (w7.heap.size :: [hb])) a1_22 ((bys L).length + nb) c1_22 ((bys L) ++ X) a2_23 (L.length + 1) c2_23 ((hcs L) ++ #[.bool true, .int .i64 ty, .int .u32 ve, .slice da dn dc, .slice sa sn sc, .int .u64 pn, .int .i64 pl].toList) a3_24 (L.length + 1) c3_24 ((sls L) ++ #[.slice pa pm pc].toList)) := Lib.hid (HT23.out.app3 (hown24 (by decide)) hk24 hn24)
            have HB24 : Hid (Below base w1 wt24) := Lib.hid (Keeps.mine_below HB23.out hk24 (by have := HB23.out.size; omega) (Nat.le_refl _))
            have HH24 : Hid (Blk wt24 hb #[.bool true, .int .i64 ty, .int .u32 ve, .slice da dn dc, .slice sa sn sc, .int .u64 pn, .int .i64 pl] 29) := Lib.hid (HT23.out.blk3 (by simp) hk24 HH23.out)
            have Hb524 : Hid (Blk wt24 (w7.heap.size) #[.bool true, .int .i64 ty, .int .u32 ve, .slice da dn dc, .slice sa sn sc, .int .u64 pn, .int .i64 pl] 29) := Lib.hid (HT23.out.blk3 (by simp) hk24 Hb523.out)
            have Hb1224 : Hid (Blk wt24 (wt13.heap.size) #[.slice pa pm pc] 24) := Lib.hid (HT23.out.blk3 (by simp) hk24 Hb1223.out)
            clear hk24 hn24 hown24 hnil24
            refine ⟨(joinS HH24.out (HPA.out wt24 (HBW.out.trans (HB24.out.mono (by omega))))), ?_⟩
            have hS := joinS HH24.out (HPA.out wt24 (HBW.out.trans (HB24.out.mono (by omega))))
            refine wpAnyH_take (i := 14) (v := ?_) rfl (by kernel_rfl) (by kernel_rfl) (by kernel_rfl) (fun _ _ _ h => h) (Or.inl ⟨by kernel_rfl, ?_⟩) hS ?_
            rotate_left
            · intro wz ⟨_, _, _, _, _, _, _, _⟩; go_simp; try with_reducible rfl
            refine wpAnyH_take (i := 15) (v := ?_) rfl (by kernel_rfl) (by kernel_rfl) (by kernel_rfl) (fun _ _ _ h => h) (Or.inl ⟨by kernel_rfl, ?_⟩) hS ?_
            rotate_left
            · intro wz ⟨_, _, _, _, _, _, _, _⟩; go_simp; try with_reducible rfl
            refine wpAnyH_take (i := 16) (v := ?_) rfl (by kernel_rfl) (by kernel_rfl) (by kernel_rfl) (fun _ _ _ h => h) (Or.inl ⟨by kernel_rfl, ?_⟩) hS ?_
            rotate_left
            · intro wz ⟨_, _, _, _, _, _, _, _⟩; go_simp; try with_reducible rfl
            refine wpAnyH_done (by kernel_rfl) ?_ _
            clear hS
            go_wp2_with fail
            obtain ⟨gk', rfl⟩ : ∃ gk', gk = gk' + 1 := ⟨gk - 1, by have := HI.out; omega⟩
            go_roundg gk'
            case measure => omega
            case rel => exact ⟨i + 1, L ++ [t0], a1_22, c1_22, a2_23, c2_23, a3_24, c3_24, by have := HI.out; omega, by go_num, by rw [HLB.out], by rw [HLL.out], by rw [HLL.out], by rw [HLL.out]; omega, HOKT.out, tri_snoc HT24.out HX2.out HTC.out HTS.out, HB24.out⟩
        · clear hj
          refine op_make (.slice (some ⟨w7.heap.size, 0, none⟩) 1 1) (.cells #[.slice pa pm pc] 24 (0, 0)) rfl (by kernel_rfl) (by kernel_rfl) ?_
          intro wt25 hw25
          have HT25 : Hid (Tri base wt25 (w7.heap.size :: [hb]) q1 (bys L).length p1 (bys L) q2 L.length p2 (hcs L) q3 L.length p3 (sls L)) := Lib.hid (hw25 ▸ HT7.out.made (.cells #[.slice pa pm pc] 24 (0, 0)))
          have HB25 : Hid (Below base w1 wt25) := Lib.hid (hw25 ▸ HB7.out.alloc (by have := HB7.out.size; omega) _)
          have HH25 : Hid (Blk wt25 hb #[.bool true, .int .i64 ty, .int .u32 ve, .slice da dn dc, .slice sa sn sc, .int .u64 pn, .int .i64 pl] 29) := Lib.hid (hw25 ▸ Blk.alloc HH7.out _)
          have HR25 : Hid (Blk wt25 w7.heap.size #[.slice pa pm pc] 24) := Lib.hid (hw25 ▸ Blk.new w7 #[.slice pa pm pc] 24)
          have HY25 : Hid (By wt25 ab nb cb X) := Lib.hid (hw25 ▸ HY7.out.alloc _)
          clear hw25
          refine ⟨(joinS HH25.out (HPA.out wt25 (HBW.out.trans (HB25.out.mono (by omega))))), ?_⟩
          refine wpAnyH_all (rs := [2, 5]) (by kernel_rfl) (by simp) (fun j hj => ?_)
          rcases (by simpa using hj : j = 2 ∨ j = 5) with rfl | rfl
          · clear hj
            refine op_app rfl (by kernel_rfl) (.tmp 69) (.tmp 70) 24 24 rfl base 5 j8 _ 1 1 Try.underlying24 j81 j82 j83 j84 rfl q1 (bys L).length p1 (Bs (bys L)) (by kernel_rfl) (.inl HT25.out.o1.2) (.slice ab nb cb) (by kernel_rfl) nb (Bs X) (HY25.out.2.src Try.underlying24 (Bs_one _)) (by unfold maxLen; omega) (by omega) (by have := HB25.out.size; omega) ?_
            intro a1_26 c1_26 wt26 _ hk26 hn26 hown26 hnil26
            have HT26 : Hid (Tri base wt26 (w7.heap.size :: [hb]) a1_26 ((bys L).length + nb) c1_26 ((bys L) ++ X) q2 L.length p2 (hcs L) q3 L.length p3 (sls L)) := Lib.hid (HT25.out.app1 (own_app HT25.out.o1 HY25.out.1 hown26 hnil26) hk26 hn26)
            have HB26 : Hid (Below base w1 wt26) := Lib.hid (Keeps.mine_below HB25.out hk26 (by have := HB25.out.size; omega) (Nat.le_refl _))
            have HH26 : Hid (Blk wt26 hb #[.bool true, .int .i64 ty, .int .u32 ve, .slice da dn dc, .slice sa sn sc, .int .u64 pn, .int .i64 pl] 29) := Lib.hid (HT25.out.blk1 (by simp) hk26 HH25.out)
            have Hb1226 : Hid (Blk wt26 (w7.heap.size) #[.slice pa pm pc] 24) := Lib.hid (HT25.out.blk1 (by simp) hk26 HR25.out)
            clear hk26 hn26 hown26 hnil26
            refine ⟨(joinS HH26.out (HPA.out wt26 (HBW.out.trans (HB26.out.mono (by omega))))), ?_⟩
            refine wpAnyH_all (rs := [5]) (by kernel_rfl) (by simp) (fun j hj => ?_)
            obtain rfl : j = 5 := by simpa using hj
            clear hj
            refine op_make (.slice (some ⟨wt26.heap.size, 0, none⟩) 1 1) (.cells #[.bool true, .int .i64 ty, .int .u32 ve, .slice da dn dc, .slice sa sn sc, .int .u64 pn, .int .i64 pl] 29 (0, 0)) rfl (by kernel_rfl) (by kernel_rfl) ?_
            intro wt27 hw27
            have HT27 : Hid (Tri base wt27 (wt26.heap.size :: (w7.heap.size :: [hb])) a1_26 ((bys L).length + nb) c1_26 ((bys L) ++ X) q2 L.length p2 (hcs L) q3 L.length p3 (sls L)) := Lib.hid (hw27 ▸ HT26.out.made (.cells #[.bool true, .int .i64 ty, .int .u32 ve, .slice da dn dc, .slice sa sn sc, .int .u64 pn, .int .i64 pl] 29 (0, 0)))
            have HB27 : Hid (Below base w1 wt27) := Lib.hid (hw27 ▸ HB26.out.alloc (by have := HB26.out.size; omega) _)
            have HH27 : Hid (Blk wt27 hb #[.bool true, .int .i64 ty, .int .u32 ve, .slice da dn dc, .slice sa sn sc, .int .u64 pn, .int .i64 pl] 29) := Lib.hid (hw27 ▸ Blk.alloc HH26.out _)
            have HR27 : Hid (Blk wt27 wt26.heap.size #[.bool true, .int .i64 ty, .int .u32 ve, .slice da dn dc, .slice sa sn sc, .int .u64 pn, .int .i64 pl] 29) := Lib.hid (hw27 ▸ Blk.new wt26 #[.bool true, .int .i64 ty, .int .u32 ve, .slice da dn dc, .slice sa sn sc, .int .u64 pn, .int .i64 pl] 29)
            have HQ27 : Hid (Blk wt27 (w7.heap.size) #[.slice pa pm pc] 24) := Lib.hid (hw27 ▸ Blk.alloc Hb1226.out _)
            clear hw27
            refine ⟨(joinS HH27.out (HPA.out wt27 (HBW.out.trans (HB27.out.mono (by omega))))), ?_⟩
            refine wpAnyH_all (rs := [6]) (by kernel_rfl) (by simp) (fun j hj => ?_)
            obtain rfl : j = 6 := by simpa using hj
            clear hj
            refine op_app rfl (by kernel_rfl) (.tmp 72) (.tmp 74) 22 22 rfl base 29 jh _ 7 88 Try.underlying22 jh1 jh2 jh3 jh4 rfl q2 L.length p2 (hcs L) (by kernel_rfl) (.inl HT27.out.o2) (.slice (some ⟨wt26.heap.size, 0, none⟩) 1 1) (by kernel_rfl) 1 #[.bool true, .int .i64 ty, .int .u32 ve, .slice da dn dc, .slice sa sn sc, .int .u64 pn, .int .i64 pl].toList (src_blk HR27.out Try.underlying22 rfl (by intro u hu; simp at hu; rcases hu with rfl | rfl | rfl | rfl | rfl | rfl | rfl <;> rfl)) (by unfold maxLen; omega) (by omega) (by have := HB27.out.size; omega) ?_
            intro a2_28 c2_28 wt28 _ hk28 hn28 hown28 hnil28
            have HT28 : Hid (Tri base wt28 (wt26.heap.size :: (w7.heap.size :: [hb])) a1_26 ((bys L).length + nb) c1_26 ((bys L) ++ X) a2_28 (L.length + 1) c2_28 ((hcs L) ++ #[.bool true, .int .i64 ty, .int .u32 ve, .slice da dn dc, .slice sa sn sc, .int .u64 pn, .int .i64 pl].toList) q3 L.length p3 (sls L)) := Lib.hid (HT27.out.app2 (hown28 (by decide)) hk28 hn28)
            have HB28 : Hid (Below base w1 wt28) := Lib.hid (Keeps.mine_below HB27.out hk28 (by have := HB27.out.size; omega) (Nat.le_refl _))
            have HH28 : Hid (Blk wt28 hb #[.bool true, .int .i64 ty, .int .u32 ve, .slice da dn dc, .slice sa sn sc, .int .u64 pn, .int .i64 pl] 29) := Lib.hid (HT27.out.blk2 (by simp) hk28 HH27.out)
            have Hb528 : Hid (Blk wt28 (wt26.heap.size) #[.bool true, .int .i64 ty, .int .u32 ve, .slice da dn dc, .slice sa sn sc, .int .u64 pn, .int .i64 pl] 29) := Lib.hid (HT27.out.blk2 (by simp) hk28 HR27.out)
            have Hb1228 : Hid (Blk wt28 (w7.heap.size) #[.slice pa pm pc] 24) := Lib.hid (HT27.out.blk2 (by simp) hk28 HQ27.out)
            clear hk28 hn28 hown28 hnil28
            refine ⟨(joinS HH28.out (HPA.out wt28 (HBW.out.trans (HB28.out.mono (by omega))))), ?_⟩
            refine wpAnyH_all (rs := [13]) (by kernel_rfl) (by simp) (fun j hj => ?_)
            obtain rfl : j = 13 := by simpa using hj
            clear hj
            refine op_app rfl (by kernel_rfl) (.tmp 76) (.tmp 81) 23 23 rfl base 24 js _ 1 24 Try.underlying23 js1 js2 js3 js4 rfl q3 L.length p3 (sls L) (by kernel_rfl) (.inl HT28.out.o3) (.slice (some ⟨w7.heap.size, 0, none⟩) 1 1) (by kernel_rfl) 1 #[.slice pa pm pc].toList (src_blk Hb1228.out Try.underlying23 rfl (by intro u hu; simp at hu; subst hu; rfl)) (by unfold maxLen; omega) (by omega) (by have := HB28.out.size; omega) ?_
            intro a3_29 c3_29 wt29 _ hk29 hn29 hown29 hnil29
            have HT29 : Hid (Tri base wt29 (wt26.heap.size :: (w7.heap.size :: [hb])) a1_26 ((bys L).length + nb) c1_26 ((bys L) ++ X) a2_28 (L.length + 1) c2_28 ((hcs L) ++ #[.bool true, .int .i64 ty, .int .u32 ve, .slice da dn dc, .slice sa sn sc, .int .u64 pn, .int .i64 pl].toList) a3_29 (L.length + 1) c3_29 ((sls L) ++ #[.slice pa pm pc].toList)) := Lib.hid (HT28.out.app3 (hown29 (by decide)) hk29 hn29)
            have HB29 : Hid (Below base w1 wt29) := Lib.hid (Keeps.mine_below HB28.out hk29 (by have := HB28.out.size; omega) (Nat.le_refl _))
            have HH29 : Hid (Blk wt29 hb #[.bool true, .int .i64 ty, .int .u32 ve, .slice da dn dc, .slice sa sn sc, .int .u64 pn, .int .i64 pl] 29) := Lib.hid (HT28.out.blk3 (by simp) hk29 HH28.out)
            have Hb529 : Hid (Blk wt29 (wt26.heap.size) #[.bool true, .int .i64 ty, .int .u32 ve, .slice da dn dc, .slice sa sn sc, .int .u64 pn, .int .i64 pl] 29) := Lib.hid (HT28.out.blk3 (by simp) hk29 Hb528.out)
            have Hb1229 : Hid (Blk wt29 (w7.heap.size) #[.slice pa pm pc] 24) := Lib.hid (HT28.out.blk3 (by simp) hk29 Hb1228.out)
            clear hk29 hn29 hown29 hnil29
            refine ⟨(joinS HH29.out (HPA.out wt29 (HBW.out.trans (HB29.out.mono (by omega))))), ?_⟩
            have hS := joinS HH29.out (HPA.out wt29 (HBW.out.trans (HB29.out.mono (by omega))))
            refine wpAnyH_take (i := 14) (v := ?_) rfl (by kernel_rfl) (by kernel_rfl) (by kernel_rfl) (fun _ _ _ h => h) (Or.inl ⟨by kernel_rfl, ?_⟩) hS ?_
            rotate_left
            · intro wz ⟨_, _, _, _, _, _, _, _⟩; go_simp; try with_reducible rfl
            refine wpAnyH_take (i := 15) (v := ?_) rfl (by kernel_rfl) (by kernel_rfl) (by kernel_rfl) (fun _ _ _ h => h) (Or.inl ⟨by kernel_rfl, ?_⟩) hS ?_
            rotate_left
            · intro wz ⟨_, _, _, _, _, _, _, _⟩; go_simp; try with_reducible rfl
            refine wpAnyH_take (i := 16) (v := ?_) rfl (by kernel_rfl) (by kernel_rfl) (by kernel_rfl) (fun _ _ _ h => h) (Or.inl ⟨by kernel_rfl, ?_⟩) hS ?_
            rotate_left
            · intro wz ⟨_, _, _, _, _, _, _, _⟩; go_simp; try with_reducible rfl
            refine wpAnyH_done (by kernel_rfl) ?_ _
            clear hS
            go_wp2_with fail
            obtain ⟨gk', rfl⟩ : ∃ gk', gk = gk' + 1 := ⟨gk - 1, by have := HI.out; omega⟩
            go_roundg gk'
            case measure => omega
            case rel => exact ⟨i + 1, L ++ [t0], a1_26, c1_26, a2_28, c2_28, a3_29, c3_29, by have := HI.out; omega, by go_num, by rw [HLB.out], by rw [HLL.out], by rw [HLL.out], by rw [HLL.out]; omega, HOKT.out, tri_snoc HT29.out HX2.out HTC.out HTS.out, HB29.out⟩
          · clear hj
            refine op_make (.slice (some ⟨wt25.heap.size, 0, none⟩) 1 1) (.cells #[.bool true, .int .i64 ty, .int .u32 ve, .slice da dn dc, .slice sa sn sc, .int .u64 pn, .int .i64 pl] 29 (0, 0)) rfl (by kernel_rfl) (by kernel_rfl) ?_
            intro wt30 hw30
            have HT30 : Hid (Tri base wt30 (wt25.heap.size :: (w7.heap.size :: [hb])) q1 (bys L).length p1 (bys L) q2 L.length p2 (hcs L) q3 L.length p3 (sls L)) := Lib.hid (hw30 ▸ HT25.out.made (.cells #[.bool true, .int .i64 ty, .int .u32 ve, .slice da dn dc, .slice sa sn sc, .int .u64 pn, .int .i64 pl] 29 (0, 0)))
            have HB30 : Hid (Below base w1 wt30) := Lib.hid (hw30 ▸ HB25.out.alloc (by have := HB25.out.size; omega) _)
            have HH30 : Hid (Blk wt30 hb #[.bool true, .int .i64 ty, .int .u32 ve, .slice da dn dc, .slice sa sn sc, .int .u64 pn, .int .i64 pl] 29) := Lib.hid (hw30 ▸ Blk.alloc HH25.out _)
            have HR30 : Hid (Blk wt30 wt25.heap.size #[.bool true, .int .i64 ty, .int .u32 ve, .slice da dn dc, .slice sa sn sc, .int .u64 pn, .int .i64 pl] 29) := Lib.hid (hw30 ▸ Blk.new wt25 #[.bool true, .int .i64 ty, .int .u32 ve, .slice da dn dc, .slice sa sn sc, .int .u64 pn, .int .i64 pl] 29)
            have HQ30 : Hid (Blk wt30 (w7.heap.size) #[.slice pa pm pc] 24) := Lib.hid (hw30 ▸ Blk.alloc HR25.out _)
            have HY30 : Hid (By wt30 ab nb cb X) := Lib.hid (hw30 ▸ HY25.out.alloc _)
            clear hw30
            refine ⟨(joinS HH30.out (HPA.out wt30 (HBW.out.trans (HB30.out.mono (by omega))))), ?_⟩
            refine wpAnyH_all (rs := [2]) (by kernel_rfl) (by simp) (fun j hj => ?_)
            obtain rfl : j = 2 := by simpa using hj
            clear hj
            refine op_app rfl (by kernel_rfl) (.tmp 69) (.tmp 70) 24 24 rfl base 5 j8 _ 1 1 Try.underlying24 j81 j82 j83 j84 rfl q1 (bys L).length p1 (Bs (bys L)) (by kernel_rfl) (.inl HT30.out.o1.2) (.slice ab nb cb) (by kernel_rfl) nb (Bs X) (HY30.out.2.src Try.underlying24 (Bs_one _)) (by unfold maxLen; omega) (by omega) (by have := HB30.out.size; omega) ?_
            intro a1_31 c1_31 wt31 _ hk31 hn31 hown31 hnil31
            have HT31 : Hid (Tri base wt31 (wt25.heap.size :: (w7.heap.size :: [hb])) a1_31 ((bys L).length + nb) c1_31 ((bys L) ++ X) q2 L.length p2 (hcs L) q3 L.length p3 (sls L)) := Lib.hid (HT30.out.app1 (own_app HT30.out.o1 HY30.out.1 hown31 hnil31) hk31 hn31)
            have HB31 : Hid (Below base w1 wt31) := Lib.hid (Keeps.mine_below HB30.out hk31 (by have := HB30.out.size; omega) (Nat.le_refl _))
            have HH31 : Hid (Blk wt31 hb #[.bool true, .int .i64 ty, .int .u32 ve, .slice da dn dc, .slice sa sn sc, .int .u64 pn, .int .i64 pl] 29) := Lib.hid (HT30.out.blk1 (by simp) hk31 HH30.out)
            have Hb531 : Hid (Blk wt31 (wt25.heap.size) #[.bool true, .int .i64 ty, .int .u32 ve, .slice da dn dc, .slice sa sn sc, .int .u64 pn, .int .i64 pl] 29) := Lib.hid (HT30.out.blk1 (by simp) hk31 HR30.out)
            have Hb1231 : Hid (Blk wt31 (w7.heap.size) #[.slice pa pm pc] 24) := Lib.hid (HT30.out.blk1 (by simp) hk31 HQ30.out)
            clear hk31 hn31 hown31 hnil31
            refine ⟨(joinS HH31.out (HPA.out wt31 (HBW.out.trans (HB31.out.mono (by omega))))), ?_⟩
            refine wpAnyH_all (rs := [6]) (by kernel_rfl) (by simp) (fun j hj => ?_)
            obtain rfl : j = 6 := by simpa using hj
            clear hj
            refine op_app rfl (by kernel_rfl) (.tmp 72) (.tmp 74) 22 22 rfl base 29 jh _ 7 88 Try.underlying22 jh1 jh2 jh3 jh4 rfl q2 L.length p2 (hcs L) (by kernel_rfl) (.inl HT31.out.o2) (.slice (some ⟨wt25.heap.size, 0, none⟩) 1 1) (by kernel_rfl) 1 #[.bool true, .int .i64 ty, .int .u32 ve, .slice da dn dc, .slice sa sn sc, .int .u64 pn, .int .i64 pl].toList (src_blk Hb531.out Try.underlying22 rfl (by intro u hu; simp at hu; rcases hu with rfl | rfl | rfl | rfl | rfl | rfl | rfl <;> rfl)) (by unfold maxLen; omega) (by omega) (by have := HB31.out.size; omega) ?_
            intro a2_32 c2_32 wt32 _ hk32 hn32 hown32 hnil32
            have HT32 : Hid (Tri base wt32 (wt25.heap.size :: (w7.heap.size :: [hb])) a1_31 ((bys L).length + nb) c1_31 ((bys L) ++ X) a2_32 (L.length + 1) c2_32 ((hcs L) ++ #[.bool true, .int .i64 ty, .int .u32 ve, .slice da dn dc, .slice sa sn sc, .int .u64 pn, .int .i64 pl].toList) q3 L.length p3 (sls L)) := Lib.hid (HT31.out.app2 (hown32 (by decide)) hk32 hn32)
            have HB32 : Hid (Below base w1 wt32) := Lib.hid (Keeps.mine_below HB31.out hk32 (by have := HB31.out.size; omega) (Nat.le_refl _))
            have HH32 : Hid (Blk wt32 hb #[.bool true, .int .i64 ty, .int .u32 ve, .slice da dn dc, .slice sa sn sc, .int .u64 pn, .int .i64 pl] 29) := Lib.hid (HT31.out.blk2 (by simp) hk32 HH31.out)
            have Hb532 : Hid (Blk wt32 (wt25.heap.size) #[.bool true, .int .i64 ty, .int .u32 ve, .slice da dn dc, .slice sa sn sc, .int .u64 pn, .int .i64 pl] 29) := Lib.hid (HT31.out.blk2 (by simp) hk32 Hb531.out)
            have Hb1232 : Hid (Blk wt32 (w7.heap.size) #[.slice pa pm pc] 24) := Lib.hid (HT31.out.blk2 (by simp) hk32 Hb1231.out)
            clear hk32 hn32 hown32 hnil32
            refine ⟨(joinS HH32.out (HPA.out wt32 (HBW.out.trans (HB32.out.mono (by omega))))), ?_⟩
            refine wpAnyH_all (rs := [13]) (by kernel_rfl) (by simp) (fun j hj => ?_)
            obtain rfl : j = 13 := by simpa using hj
            clear hj
            refine op_app rfl (by kernel_rfl) (.tmp 76) (.tmp 81) 23 23 rfl base 24 js _ 1 24 Try.underlying23 js1 js2 js3 js4 rfl q3 L.length p3 (sls L) (by kernel_rfl) (.inl HT32.out.o3) (.slice (some ⟨w7.heap.size, 0, none⟩) 1 1) (by kernel_rfl) 1 #[.slice pa pm pc].toList (src_blk Hb1232.out Try.underlying23 rfl (by intro u hu; simp at hu; subst hu; rfl)) (by unfold maxLen; omega) (by omega) (by have := HB32.out.size; omega) ?_
            intro a3_33 c3_33 wt33 _ hk33 hn33 hown33 hnil33
            have HT33 : Hid (Tri base wt33 (wt25.heap.size :: (w7.heap.size :: [hb])) a1_31 ((bys L).length + nb) c1_31 ((bys L) ++ X) a2_32 (L.length + 1) c2_32 ((hcs L) ++ #[.bool true, .int .i64 ty, .int .u32 ve, .slice da dn dc, .slice sa sn sc, .int .u64 pn, .int .i64 pl].toList) a3_33 (L.length + 1) c3_33 ((sls L) ++ #[.slice pa pm pc].toList)) := Lib.hid (HT32.out.app3 (hown33 (by decide)) hk33 hn33)
            have HB33 : Hid (Below base w1 wt33) := Lib.hid (Keeps.mine_below HB32.out hk33 (by have := HB32.out.size; omega) (Nat.le_refl _))
            have HH33 : Hid (Blk wt33 hb #[.bool true, .int .i64 ty, .int .u32 ve, .slice da dn dc, .slice sa sn sc, .int .u64 pn, .int .i64 pl] 29) := Lib.hid (HT32.out.blk3 (by simp) hk33 HH32.out)
            have Hb533 : Hid (Blk wt33 (wt25.heap.size) #[.bool true, .int .i64 ty, .int .u32 ve, .slice da dn dc, .slice sa sn sc, .int .u64 pn, .int .i64 pl] 29) := Lib.hid (HT32.out.blk3 (by simp) hk33 Hb532.out)
            have Hb1233 : Hid (Blk wt33 (w7.heap.size) #[.slice pa pm pc] 24) := Lib.hid (HT32.out.blk3 (by simp) hk33 Hb1232.out)
            clear hk33 hn33 hown33 hnil33
            refine ⟨(joinS HH33.out (HPA.out wt33 (HBW.out.trans (HB33.out.mono (by omega))))), ?_⟩
            have hS := joinS HH33.out (HPA.out wt33 (HBW.out.trans (HB33.out.mono (by omega))))
            refine wpAnyH_take (i := 14) (v := ?_) rfl (by kernel_rfl) (by kernel_rfl) (by kernel_rfl) (fun _ _ _ h => h) (Or.inl ⟨by kernel_rfl, ?_⟩) hS ?_
            rotate_left
            · intro wz ⟨_, _, _, _, _, _, _, _⟩; go_simp; try with_reducible rfl
            refine wpAnyH_take (i := 15) (v := ?_) rfl (by kernel_rfl) (by kernel_rfl) (by kernel_rfl) (fun _ _ _ h => h) (Or.inl ⟨by kernel_rfl, ?_⟩) hS ?_
            rotate_left
            · intro wz ⟨_, _, _, _, _, _, _, _⟩; go_simp; try with_reducible rfl
            refine wpAnyH_take (i := 16) (v := ?_) rfl (by kernel_rfl) (by kernel_rfl) (by kernel_rfl) (fun _ _ _ h => h) (Or.inl ⟨by kernel_rfl, ?_⟩) hS ?_
            rotate_left
            · intro wz ⟨_, _, _, _, _, _, _, _⟩; go_simp; try with_reducible rfl
            refine wpAnyH_done (by kernel_rfl) ?_ _
            clear hS
            go_wp2_with fail
            obtain ⟨gk', rfl⟩ : ∃ gk', gk = gk' + 1 := ⟨gk - 1, by have := HI.out; omega⟩
            go_roundg gk'
            case measure => omega
            case rel => exact ⟨i + 1, L ++ [t0], a1_31, c1_31, a2_32, c2_32, a3_33, c3_33, by have := HI.out; omega, by go_num, by rw [HLB.out], by rw [HLL.out], by rw [HLL.out], by rw [HLL.out]; omega, HOKT.out, tri_snoc HT33.out HX2.out HTC.out HTS.out, HB33.out⟩
    · obtain rfl : i = n0 := by have := HI.out; omega
      have hLl : L.length ≤ 5 := by omega
      have hn2z : zs.length ≤ 100 := by have := HZN.out; omega
      go_wp2_with (refine wpList_make8 _ rfl _ _ rfl 8 rfl rfl (by omega) ?_; intro w2 ho2 hk2; refine halt ?_)
      have HO2 := Lib.hid ho2
      have HK2 := Lib.hid hk2
      have hs2 : wr.heap.size < w2.heap.size := (ho2.ge _ rfl).2
      clear ho2 hk2
      refine Halted.go ?_
      go_wp2_with fail
      refine calls_named ?_
      intro w3 hw3
      have hs3 : w3.heap.size = w2.heap.size + 1 := by rw [← hw3]; simp
      have HS3 : Hid (Blk w3 w2.heap.size #[.bool false, .int .i64 0, .int .u32 0, .slice (some ⟨wr.heap.size, 0, none⟩) 8 8, .slice none 0 0, .int .u64 1, .int .i64 2] 29) := Lib.hid (by rw [← hw3]; exact Blk.new w2 _ _)
      have HX3 : Hid (By w3 (some ⟨wr.heap.size, 0, none⟩) 8 8 (List.replicate 8 0)) := Lib.hid (by rw [← hw3]; exact HO2.out.by.alloc _)
      have HT3 : Hid (Tri base w3 [] q1 (bys L).length p1 (bys L) q2 L.length p2 (hcs L) q3 L.length p3 (sls L)) := Lib.hid (by rw [← hw3]; exact ((HT0.out.below HK2.out).made _).forget)
      have HB3 : Hid (Below base w1 w3) := Lib.hid (by rw [← hw3]; exact (HB0.out.trans (HK2.out.mono hsw)).alloc (by omega) _)
      have HL1 : Hid (∀ b, q1.map (·.block) = some b → b < wr.heap.size) := Lib.hid (fun b hb => (HT0.out.o1.ge b hb).2)
      clear hw3
      refine (ref_any false 0 0 (some ⟨wr.heap.size, 0, none⟩) 8 8 (List.replicate 8 0) none 0 0 [] 1 2 a2 n2 k2 zs w3 (fun w' h => HX3.out.below h (fun b hb => by simp at hb; omega)) (fun w' h => By.nil w') (fun w' h => HZ.out w' (HBW.out.trans ((HB3.out.mono hbw).trans (h.mono (by omega))))) (by omega) (by omega) (by omega) (by omega) (by omega)).mono ?_
      rintro e w4 ⟨ab, nb, cb, rfl, ho4, hk4⟩
      rw [(last_w zs hn2z).1] at ho4
      rw [(last_w zs hn2z).2]
      have hnb : nb ≤ 120 := by rw [ho4.1, last_l]; omega
      have HS4 := Lib.hid ((Below.keeps hk4).blk HS3.out (by omega))
      have HX4 := Lib.hid (HX3.out.below hk4 (fun b hb => by simp at hb; omega))
      have HT4 := Lib.hid (HT3.out.below hk4)
      have HB4 := Lib.hid (HB3.out.trans (hk4.mono (by omega)))
      have HY4 := Lib.hid ho4.by
      have hs4 : w3.heap.size ≤ w4.heap.size := hk4.size
      clear ho4 hk4
      go_wp2_with (at_builtin; refine halt ?_)
      refine Halted.go (wpList_own _ rfl _ _ rfl base q1 (bys L).length p1 (bys L) rfl HT4.out.o1 ab nb cb _ rfl HY4.out (by omega) (by omega) ?_)
      intro aF cF w5 ho5 hk5
      have HO5 := Lib.hid ho5
      have HV2 := Lib.hid ((own_vw HT4.out.o2).keep hk5 (fun b hb e => HT4.out.d12 b e.2 hb))
      have HV3 := Lib.hid ((own_vw HT4.out.o3).keep hk5 (fun b hb e => HT4.out.d13 b e.2 hb))
      have HS5 := Lib.hid (hk5.blk HS4.out (fun e => by have := HL1.out _ e.2; omega))
      have HX5 := Lib.hid (HX4.out.keep hk5 (fun b hb e => by have := HL1.out b e.2; simp at hb; omega))
      have HB5 := Lib.hid (Keeps.mine_below HB4.out hk5 (by omega) (Nat.le_refl _))
      have hs5 : w4.heap.size ≤ w5.heap.size := hk5.size
      have HL2 : Hid (∀ b, q2.map (·.block) = some b → b < w5.heap.size) := Lib.hid (fun b hb => by have := (own_ge HT4.out.o2 b hb).2; omega)
      have HL3 : Hid (∀ b, q3.map (·.block) = some b → b < w5.heap.size) := Lib.hid (fun b hb => by have := (own_ge HT4.out.o3 b hb).2; omega)
      clear ho5 hk5
      have hlF : (bys L).length + nb = (bys L ++ pktS (List.replicate 8 0) 1 2 zs).length := HO5.out.1
      have HLF := Lib.hid hlF
      clear hlF
      go_wp2_with fail
      generalize wr.heap.size = zb at *
      clear hxl
      go_loopg [7, 17] (L.length + 1) (fun k v7 v17 wx => ∃ (j : Nat) (qa : Option Addr) (qc : Nat) (xs : List UInt8), k + j = L.length + 1 ∧ v17 = .int .i64 j ∧ v7 = .slice qa xs.length qc ∧ By wx qa xs.length qc xs ∧ xs = restB L (pktS (List.replicate 8 0) 1 2 zs) j ∧ (∀ b, qa.map (·.block) = some b → b < w5.heap.size) ∧ Below w5.heap.size w5 wx)
      case atStart => exact ⟨0, aF, cF, _, by omega, rfl, by rw [HLF.out], by rw [← HLF.out]; exact HO5.out.by, by simp [restB], fun b hb => (HO5.out.ge b hb).2, Below.refl _ _⟩
      case round =>
        obtain ⟨j, qa, qc, xs, hj, rfl, rfl, hby, hxs, hqa, hkx⟩ := hrel
        have HJ := Lib.hid hj
        have HBY := Lib.hid hby
        have HXS := Lib.hid hxs
        have HQA := Lib.hid hqa
        have HKX := Lib.hid hkx
        have hsx : w5.heap.size ≤ wr.heap.size := hkx.size
        have hl2 : w2.heap.size < w5.heap.size := HS5.out.lt
        have HSx := Lib.hid ((Below.keeps hkx).blk HS5.out (by omega))
        have HXx := Lib.hid (HX5.out.below hkx (fun b hb => by simp at hb; omega))
        have HBx := Lib.hid (HBW.out.trans ((HB5.out.trans (hkx.mono (by omega))).mono hbw))
        have hxmax := hby.2.max
        have hxle := hby.2.le
        unfold maxLen at hxmax
        clear hj hby hxs hqa hkx
        obtain ⟨⟨z0, z1, z2, z3, z4, z5, z6⟩, _⟩ := hd_cells HSx.out
        have jz : (0 : Int) ≤ (j : Int) := by omega
        by_cases hjj : j < L.length
        · have hq2 : ∃ b2 o2, q2 = some ⟨b2, o2, none⟩ ∧ b2 < w5.heap.size ∧ ∀ k u, (hcs L)[k]? = some u → w5.cell? ⟨b2, o2 + k, none⟩ = some u := by
            rcases HV2.out.at_ with h0 | h0
            · have h := hcs_length L; rw [h0] at h; simp at h; omega
            · exact h0
          have hq3 : ∃ b3 o3, q3 = some ⟨b3, o3, none⟩ ∧ b3 < w5.heap.size ∧ ∀ k u, (sls L)[k]? = some u → w5.cell? ⟨b3, o3 + k, none⟩ = some u := by
            rcases HV3.out.at_ with h0 | h0
            · simp [sls] at h0; rw [h0] at hjj; simp at hjj
            · exact h0
          obtain ⟨b2, o2, rfl, hb2, hc2⟩ := hq2
          obtain ⟨b3, o3, rfl, hb3, hc3⟩ := hq3
          have HWS : Hid (∀ W : World, Below w5.heap.size w5 W → W.cell? ⟨b2, o2 + j * 7, none⟩ = some (.bool true) ∧ W.cell? ⟨b2, o2 + j * 7 + 1, none⟩ = some (.int .i64 L[j].ty) ∧ W.cell? ⟨b2, o2 + j * 7 + 2, none⟩ = some (.int .u32 L[j].ve) ∧ W.cell? ⟨b2, o2 + j * 7 + 3, none⟩ = some (.slice L[j].da L[j].dn L[j].dc) ∧ W.cell? ⟨b2, o2 + j * 7 + 4, none⟩ = some (.slice L[j].sa L[j].sn L[j].sc) ∧ W.cell? ⟨b2, o2 + j * 7 + 5, none⟩ = some (.int .u64 L[j].pn) ∧ W.cell? ⟨b2, o2 + j * 7 + 6, none⟩ = some (.int .i64 L[j].pl) ∧ W.cell? ⟨b3, o3 + j, none⟩ = some (.slice L[j].pa L[j].pm L[j].pc)) := Lib.hid (fun W h => want_cells hjj hb2 hc2 hb3 hc3 h)
          clear hc2 hc3
          have jl2 := HV2.out.le
          have jl3 := HV3.out.le
          go_upto_region 26 with fail
          refine wp_named ?_
          intro w6 hw6
          have HN6 : Hid (Blk w6 wr.heap.size #[.bool false, .int .i64 0, .int .u32 0, .slice (some ⟨zb, 0, none⟩) 8 8, .slice none 0 0, .int .u64 1, .int .i64 2] 29) := Lib.hid (by rw [← hw6]; exact Blk.new wr _ _)
          have HK6 : Hid (Below wr.heap.size wr w6) := Lib.hid (by rw [← hw6]; exact (Below.refl _ wr).alloc (Nat.le_refl _) _)
          clear hw6 z0 z1 z2 z3 z4 z5 z6
          refine wp_region_held (S := fun w' : World => w'.cell? ⟨b2, o2 + j * 7, none⟩ = some (.bool true) ∧ w'.cell? ⟨b2, o2 + j * 7 + 1, none⟩ = some (.int .i64 L[j].ty) ∧ w'.cell? ⟨b2, o2 + j * 7 + 2, none⟩ = some (.int .u32 L[j].ve) ∧ w'.cell? ⟨b2, o2 + j * 7 + 3, none⟩ = some (.slice L[j].da L[j].dn L[j].dc) ∧ w'.cell? ⟨b2, o2 + j * 7 + 4, none⟩ = some (.slice L[j].sa L[j].sn L[j].sc) ∧ w'.cell? ⟨b2, o2 + j * 7 + 5, none⟩ = some (.int .u64 L[j].pn) ∧ w'.cell? ⟨b2, o2 + j * 7 + 6, none⟩ = some (.int .i64 L[j].pl) ∧ w'.cell? ⟨b3, o3 + j, none⟩ = some (.slice L[j].pa L[j].pm L[j].pc)) (by kernel_rfl) ?_
          change wpAnyH _ _ _ _ _ _ _ _ (World.drew _)
          have hS := HWS.out w6.drew (HKX.out.trans ((HK6.out.mono hsx).drew))
          refine wpAnyH_take (i := 0) (v := ?_) rfl (by kernel_rfl) (by kernel_rfl) (by kernel_rfl) (fun _ _ _ h => h) (Or.inl ⟨by kernel_rfl, ?_⟩) hS ?_
          rotate_left
          · intro wz ⟨_, _, _, _, _, _, _, _⟩; go_simp; try with_reducible rfl
          refine wpAnyH_take (i := 1) (v := ?_) rfl (by kernel_rfl) (by kernel_rfl) (by kernel_rfl) (fun _ _ _ h => h) (Or.inl ⟨by kernel_rfl, ?_⟩) hS ?_
          rotate_left
          · intro wz ⟨_, _, _, _, _, _, _, _⟩; go_simp; try with_reducible rfl
          refine wpAnyH_take (i := 2) (v := ?_) rfl (by kernel_rfl) (by kernel_rfl) (by kernel_rfl) (fun _ _ _ h => h) (Or.inl ⟨by kernel_rfl, ?_⟩) hS ?_
          rotate_left
          · intro wz ⟨_, _, _, _, _, _, _, _⟩; go_simp; try with_reducible rfl
          refine wpAnyH_take (i := 3) (v := ?_) rfl (by kernel_rfl) (by kernel_rfl) (by kernel_rfl) (fun _ _ _ h => h) (Or.inl ⟨by kernel_rfl, ?_⟩) hS ?_
          rotate_left
          · intro wz ⟨_, _, _, _, _, _, _, _⟩; go_simp; try with_reducible rfl
          refine wpAnyH_take (i := 4) (v := ?_) rfl (by kernel_rfl) (by kernel_rfl) (by kernel_rfl) (fun _ _ _ h => h) (Or.inl ⟨by kernel_rfl, ?_⟩) hS ?_
          rotate_left
          · intro wz ⟨_, _, _, _, _, _, _, _⟩; go_simp; try with_reducible rfl
          refine wpAnyH_take (i := 5) (v := ?_) rfl (by kernel_rfl) (by kernel_rfl) (by kernel_rfl) (fun _ _ _ h => h) (Or.inl ⟨by kernel_rfl, ?_⟩) hS ?_
          rotate_left
          · intro wz ⟨_, _, _, _, _, _, _, _⟩; go_simp; try with_reducible rfl
          refine wpAnyH_take (i := 6) (v := ?_) rfl (by kernel_rfl) (by kernel_rfl) (by kernel_rfl) (fun _ _ _ h => h) (Or.inl ⟨by kernel_rfl, ?_⟩) hS ?_
          rotate_left
          · intro wz ⟨_, _, _, _, _, _, _, _⟩; go_simp; try with_reducible rfl
          refine wpAnyH_take (i := 7) (v := ?_) rfl (by kernel_rfl) (by kernel_rfl) (by kernel_rfl) (fun _ _ _ h => h) (Or.inl ⟨by kernel_rfl, ?_⟩) hS ?_
          rotate_left
          · intro wz ⟨_, _, _, _, _, _, _, _⟩; go_simp; try with_reducible rfl
          clear hS
          have HBd : Hid (Below w5.heap.size w5 w6.drew) := Lib.hid (HKX.out.trans ((HK6.out.mono hsx).drew))
          have HN7 : Hid (Blk w6.drew wr.heap.size #[.bool false, .int .i64 0, .int .u32 0, .slice (some ⟨zb, 0, none⟩) 8 8, .slice none 0 0, .int .u64 1, .int .i64 2] 29) := Lib.hid HN6.out.drew
          have HK7 : Hid (Below wr.heap.size wr w6.drew) := Lib.hid HK6.out.drew
          generalize w6.drew = w7 at *
          obtain ⟨⟨z0, z1, z2, z3, z4, z5, z6⟩, y0, y1, y2, y3, y4, y5, y6⟩ := hd_cells HN7.out
          have HWF := Lib.hid (hd_set HN7.out (.bool true) (.int .i64 L[j].ty) (.int .u32 L[j].ve) (.slice L[j].da L[j].dn L[j].dc) (.slice L[j].sa L[j].sn L[j].sc) (.int .u64 L[j].pn) (.int .i64 L[j].pl))
          have HBF := Lib.hid (below_setH HBd.out hsx (.bool true) (.int .i64 L[j].ty) (.int .u32 L[j].ve) (.slice L[j].da L[j].dn L[j].dc) (.slice L[j].sa L[j].sn L[j].sc) (.int .u64 L[j].pn) (.int .i64 L[j].pl))
          have HKF := Lib.hid (below_setH HK7.out (Nat.le_refl _) (.bool true) (.int .i64 L[j].ty) (.int .u32 L[j].ve) (.slice L[j].da L[j].dn L[j].dc) (.slice L[j].sa L[j].sn L[j].sc) (.int .u64 L[j].pn) (.int .i64 L[j].pl))
          refine held_skip (i := 8) (((((((w7.setCell ⟨wr.heap.size, 0, none⟩ (.bool true)).setCell ⟨wr.heap.size, 1, none⟩ (.int .i64 L[j].ty)).setCell ⟨wr.heap.size, 2, none⟩ (.int .u32 L[j].ve)).setCell ⟨wr.heap.size, 3, none⟩ (.slice L[j].da L[j].dn L[j].dc)).setCell ⟨wr.heap.size, 4, none⟩ (.slice L[j].sa L[j].sn L[j].sc)).setCell ⟨wr.heap.size, 5, none⟩ (.int .u64 L[j].pn)).setCell ⟨wr.heap.size, 6, none⟩ (.int .i64 L[j].pl)) rfl (by kernel_rfl) (by kernel_rfl) ?_ (HWS.out _ HBF.out) ?_
          · go_simp; try with_reducible rfl
          clear z0 z1 z2 z3 z4 z5 z6 y0 y1 y2 y3 y4 y5 y6
          generalize (((((((w7.setCell ⟨wr.heap.size, 0, none⟩ (.bool true)).setCell ⟨wr.heap.size, 1, none⟩ (.int .i64 L[j].ty)).setCell ⟨wr.heap.size, 2, none⟩ (.int .u32 L[j].ve)).setCell ⟨wr.heap.size, 3, none⟩ (.slice L[j].da L[j].dn L[j].dc)).setCell ⟨wr.heap.size, 4, none⟩ (.slice L[j].sa L[j].sn L[j].sc)).setCell ⟨wr.heap.size, 5, none⟩ (.int .u64 L[j].pn)).setCell ⟨wr.heap.size, 6, none⟩ (.int .i64 L[j].pl)) = w8 at *
          have hS := HWS.out w8 HBF.out
          refine wpAnyH_take (i := 9) (v := ?_) rfl (by kernel_rfl) (by kernel_rfl) (by kernel_rfl) (fun _ _ _ h => h) (Or.inl ⟨by kernel_rfl, ?_⟩) hS ?_
          rotate_left
          · intro wz ⟨_, _, _, _, _, _, _, _⟩; go_simp; try with_reducible rfl
          refine wpAnyH_done (by kernel_rfl) ?_ _
          clear hS HWS
          have hmem : L[j] ∈ L := List.getElem_mem hjj
          have HIT := Lib.hid (HOK.out L[j] hmem)
          have HBY8 : Hid (By w8 qa xs.length qc (pktL L[j].ty L[j].ve L[j].dx L[j].sx L[j].pn L[j].pl.toNat L[j].ys ++ restB L (pktS (List.replicate 8 0) 1 2 zs) (j + 1))) := Lib.hid (by
            have h := HBY.out.below HKF.out (fun b hb => by have := HQA.out b hb; omega)
            have e : xs = pktL L[j].ty L[j].ve L[j].dx L[j].sx L[j].pn L[j].pl.toNat L[j].ys ++ restB L (pktS (List.replicate 8 0) 1 2 zs) (j + 1) := by rw [HXS.out, restB_go hjj]; rfl
            rwa [← e])
          obtain ⟨f1, f2, f3, f4, f5, f6, f7, f8⟩ := HIT.out.facts
          have hxl : xs.length ≤ 1000000000 := by
            have h1 := HXS.out
            have h2 : xs.length ≤ (bys L).length + nb := by rw [h1, HLF.out]; exact restB_le _ _ _
            have h3 := bys_le L HOK.out
            omega
          have HPL := Lib.hid f6
          have hsz8 : wr.heap.size ≤ w8.heap.size := HKF.out.size
          clear f6
          go_wp2_with fail
          refine (read_long qa xs.length qc L[j].ty L[j].ve L[j].dx L[j].sx L[j].pn L[j].pl.toNat L[j].ys _ w8 HBY8.out hxl (fun b hb => by have := HQA.out b hb; omega) f1 f2 HIT.out.v0 (by have := HIT.out.v1; omega) f3 f4 (by omega) (by omega) HIT.out.n0 f7 f8).mono ?_
          rintro e w9 ⟨r1, s1, r2, s2, r3, s3, rfl, ho1, ho2, ho3, hk9⟩
          rw [← HPL.out]
          obtain ⟨kk, hkk⟩ : ∃ kk, (pktL L[j].ty L[j].ve L[j].dx L[j].sx L[j].pn L[j].pl.toNat L[j].ys).length = kk := ⟨_, rfl⟩
          rw [hkk]
          have hwl := HWF.out.lt
          have HK9 : Hid (Below wr.heap.size wr (w9.alloc (.cells #[.bool true, .int .i64 L[j].ty, .int .u32 L[j].ve, .slice r1 L[j].dx.length s1, .slice r2 L[j].sx.length s2, .int .u64 L[j].pn, .int .i64 L[j].pl] 29 (0, 0)))) := Lib.hid ((HKF.out.trans (hk9.mono hsz8)).alloc (by have := hk9.size; omega) _)
          have HD1 : Hid (By (w9.alloc (.cells #[.bool true, .int .i64 L[j].ty, .int .u32 L[j].ve, .slice r1 L[j].dx.length s1, .slice r2 L[j].sx.length s2, .int .u64 L[j].pn, .int .i64 L[j].pl] 29 (0, 0))) r1 L[j].dx.length s1 L[j].dx) := Lib.hid (ho1.by.alloc _)
          have HD2 : Hid (By (w9.alloc (.cells #[.bool true, .int .i64 L[j].ty, .int .u32 L[j].ve, .slice r1 L[j].dx.length s1, .slice r2 L[j].sx.length s2, .int .u64 L[j].pn, .int .i64 L[j].pl] 29 (0, 0))) r2 L[j].sx.length s2 L[j].sx) := Lib.hid (ho2.by.alloc _)
          have HD3 : Hid (By (w9.alloc (.cells #[.bool true, .int .i64 L[j].ty, .int .u32 L[j].ve, .slice r1 L[j].dx.length s1, .slice r2 L[j].sx.length s2, .int .u64 L[j].pn, .int .i64 L[j].pl] 29 (0, 0))) r3 L[j].ys.length s3 L[j].ys) := Lib.hid (ho3.by.alloc _)
          have HL9 : Hid (∀ b, r3.map (·.block) = some b → b < w9.heap.size) := Lib.hid (fun b hb => (ho3.ge b hb).2)
          have HW9 := Lib.hid (((Below.keeps hk9).blk HWF.out (by omega)).alloc (.cells #[.bool true, .int .i64 L[j].ty, .int .u32 L[j].ve, .slice r1 L[j].dx.length s1, .slice r2 L[j].sx.length s2, .int .u64 L[j].pn, .int .i64 L[j].pl] 29 (0, 0)))
          have HG9 := Lib.hid (Blk.new w9 #[.bool true, .int .i64 L[j].ty, .int .u32 L[j].ve, .slice r1 L[j].dx.length s1, .slice r2 L[j].sx.length s2, .int .u64 L[j].pn, .int .i64 L[j].pl] 29)
          have hs9 : w8.heap.size ≤ w9.heap.size := hk9.size
          have HSZ9 : Hid ((w9.alloc (.cells #[.bool true, .int .i64 L[j].ty, .int .u32 L[j].ve, .slice r1 L[j].dx.length s1, .slice r2 L[j].sx.length s2, .int .u64 L[j].pn, .int .i64 L[j].pl] 29 (0, 0))).heap.size = w9.heap.size + 1) := Lib.hid (by simp)
          clear ho1 ho2 ho3 hk9
          have HBW9 := Lib.hid (HBx.out.trans (HK9.out.mono (by omega)))
          obtain ⟨⟨z0, z1, z2, z3, z4, z5, z6⟩, _⟩ := hd_cells HG9.out
          obtain ⟨⟨y0, y1, y2, y3, y4, y5, y6⟩, _⟩ := hd_cells HW9.out
          have HKK := Lib.hid hkk
          clear hkk
          go_wp2_with fail
          refine (header_same true L[j].ty L[j].ve r1 L[j].dx.length s1 L[j].dx r2 L[j].sx.length s2 L[j].sx L[j].pn L[j].pl L[j].da L[j].dn L[j].dc L[j].sa L[j].sn L[j].sc _ HD1.out HD2.out (HIT.out.d _ HBW9.out) (HIT.out.s _ HBW9.out)).mono ?_
          rintro e w10 ⟨rfl, hk10⟩
          have HP10 := Lib.hid (HD3.out.below hk10 (fun b hb => by rw [HSZ9.out]; have := HL9.out b hb; omega))
          have HK10 := Lib.hid (HK9.out.trans (hk10.mono (by rw [HSZ9.out]; omega)))
          have HBW10 := Lib.hid (HBx.out.trans (HK10.out.mono (by omega)))
          clear hk10 z0 z1 z2 z3 z4 z5 z6 y0 y1 y2 y3 y4 y5 y6
          go_wp2_with fail
          refine By.upon HP10.out ?_
          go_wp2_with fail
          refine By.upon (HIT.out.p _ HBW10.out) ?_
          have hkx : kk ≤ xs.length := by
            rw [HXS.out, restB_go hjj, List.length_append]
            have : L[j].by.length = kk := HKK.out
            omega
          have ho := offA_eq qa qc kk
          have i1 : (0 : Int) ≤ (kk : Int) := by omega
          have i2 : (kk : Int) ≤ (xs.length : Int) := by omega
          have i3 : (xs.length : Int) ≤ (qc : Int) := by omega
          have HBY10 := Lib.hid (((HBY.out.below HK10.out (fun b hb => by have := HQA.out b hb; omega))).from kk hkx)
          have hdrop : xs.drop kk = restB L (pktS (List.replicate 8 0) 1 2 zs) (j + 1) := by rw [HXS.out, restB_go hjj]; exact List.drop_left' HKK.out
          have HDR := Lib.hid hdrop
          clear hdrop
          go_wp2_with fail
          obtain ⟨g', rfl⟩ : ∃ g', gk = g' + 1 := ⟨gk - 1, by have := HJ.out; omega⟩
          go_roundg g'
          case measure => omega
          case rel => exact ⟨j + 1, offA qa qc kk, qc - kk, xs.drop kk, by have := HJ.out; omega, by go_num, by rw [List.length_drop], by have h := HBY10.out; rwa [List.length_drop], HDR.out, fun b hb => HQA.out b (offA_block hb), HKX.out.trans (HK10.out.mono hsx)⟩
        · by_cases hje : j = L.length
          · subst hje
            have HBY8 : Hid (By (wr.alloc (.cells #[.bool false, .int .i64 0, .int .u32 0, .slice (some ⟨zb, 0, none⟩) 8 8, .slice none 0 0, .int .u64 1, .int .i64 2] 29 (0, 0))) qa xs.length qc (pktS (List.replicate 8 0) 1 2 zs)) := Lib.hid (by
              have h := HBY.out.alloc (.cells #[.bool false, .int .i64 0, .int .u32 0, .slice (some ⟨zb, 0, none⟩) 8 8, .slice none 0 0, .int .u64 1, .int .i64 2] 29 (0, 0))
              have e : xs = pktS (List.replicate 8 0) 1 2 zs := by rw [HXS.out, (restB_last _ _).1]
              rwa [← e])
            have hxl : xs.length ≤ 1000000000 := by rw [HXS.out, (restB_last _ _).1, last_l]; omega
            have HWA : Hid (Blk (wr.alloc (.cells #[.bool false, .int .i64 0, .int .u32 0, .slice (some ⟨zb, 0, none⟩) 8 8, .slice none 0 0, .int .u64 1, .int .i64 2] 29 (0, 0))) wr.heap.size #[.bool false, .int .i64 0, .int .u32 0, .slice (some ⟨zb, 0, none⟩) 8 8, .slice none 0 0, .int .u64 1, .int .i64 2] 29) := Lib.hid (Blk.new wr _ _)
            have HKA : Hid (Below wr.heap.size wr (wr.alloc (.cells #[.bool false, .int .i64 0, .int .u32 0, .slice (some ⟨zb, 0, none⟩) 8 8, .slice none 0 0, .int .u64 1, .int .i64 2] 29 (0, 0)))) := Lib.hid ((Below.refl _ wr).alloc (Nat.le_refl _) _)
            have HSA : Hid ((wr.alloc (.cells #[.bool false, .int .i64 0, .int .u32 0, .slice (some ⟨zb, 0, none⟩) 8 8, .slice none 0 0, .int .u64 1, .int .i64 2] 29 (0, 0))).heap.size = wr.heap.size + 1) := Lib.hid (by simp)
            have HXA := Lib.hid (HXx.out.alloc (.cells #[.bool false, .int .i64 0, .int .u32 0, .slice (some ⟨zb, 0, none⟩) 8 8, .slice none 0 0, .int .u64 1, .int .i64 2] 29 (0, 0)))
            go_wp2_with fail
            refine (read_short qa xs.length qc (List.replicate 8 0) 1 2 zs _ HBY8.out hxl (fun b hb => by rw [HSA.out]; have := HQA.out b hb; omega) (by simp) (by omega) (by omega) (by decide) (by decide)).mono ?_
            rintro e w9 ⟨r1, s1, r3, s3, rfl, ho1, ho3, hk9⟩
            have hs9 : wr.heap.size + 1 ≤ w9.heap.size := by have := hk9.size; rw [HSA.out] at this; exact this
            have HK9 : Hid (Below wr.heap.size wr (w9.alloc (.cells #[.bool false, .int .i64 0, .int .u32 0, .slice r1 8 s1, .slice none 0 0, .int .u64 1, .int .i64 2] 29 (0, 0)))) := Lib.hid ((HKA.out.trans (hk9.mono (by rw [HSA.out]; omega))).alloc (by omega) _)
            have HD1 : Hid (By (w9.alloc (.cells #[.bool false, .int .i64 0, .int .u32 0, .slice r1 8 s1, .slice none 0 0, .int .u64 1, .int .i64 2] 29 (0, 0))) r1 8 s1 (List.replicate 8 0)) := Lib.hid (ho1.by.alloc _)
            have HD3 : Hid (By (w9.alloc (.cells #[.bool false, .int .i64 0, .int .u32 0, .slice r1 8 s1, .slice none 0 0, .int .u64 1, .int .i64 2] 29 (0, 0))) r3 zs.length s3 zs) := Lib.hid (ho3.by.alloc _)
            have HL9 : Hid (∀ b, r3.map (·.block) = some b → b < w9.heap.size) := Lib.hid (fun b hb => (ho3.ge b hb).2)
            have HX9 : Hid (By (w9.alloc (.cells #[.bool false, .int .i64 0, .int .u32 0, .slice r1 8 s1, .slice none 0 0, .int .u64 1, .int .i64 2] 29 (0, 0))) (some ⟨zb, 0, none⟩) 8 8 (List.replicate 8 0)) := Lib.hid ((HXA.out.below hk9 (fun b hb => by rw [HSA.out]; simp at hb; omega)).alloc _)
            have HW9 := Lib.hid (((Below.keeps hk9).blk HWA.out (by rw [HSA.out]; omega)).alloc (.cells #[.bool false, .int .i64 0, .int .u32 0, .slice r1 8 s1, .slice none 0 0, .int .u64 1, .int .i64 2] 29 (0, 0)))
            have HG9 := Lib.hid (Blk.new w9 #[.bool false, .int .i64 0, .int .u32 0, .slice r1 8 s1, .slice none 0 0, .int .u64 1, .int .i64 2] 29)
            have HSZ9 : Hid ((w9.alloc (.cells #[.bool false, .int .i64 0, .int .u32 0, .slice r1 8 s1, .slice none 0 0, .int .u64 1, .int .i64 2] 29 (0, 0))).heap.size = w9.heap.size + 1) := Lib.hid (by simp)
            clear ho1 ho3 hk9 z0 z1 z2 z3 z4 z5 z6
            obtain ⟨⟨z0, z1, z2, z3, z4, z5, z6⟩, _⟩ := hd_cells HG9.out
            obtain ⟨⟨y0, y1, y2, y3, y4, y5, y6⟩, _⟩ := hd_cells HW9.out
            go_wp2_with fail
            refine (header_same false 0 0 r1 8 s1 (List.replicate 8 0) none 0 0 [] 1 2 _ 8 8 none 0 0 _ HD1.out (By.nil _) HX9.out (By.nil _)).mono ?_
            rintro e w10 ⟨rfl, hk10⟩
            have HP10 := Lib.hid (HD3.out.below hk10 (fun b hb => by rw [HSZ9.out]; have := HL9.out b hb; omega))
            have HK10 := Lib.hid (HK9.out.trans (hk10.mono (by rw [HSZ9.out]; omega)))
            have HBW10 := Lib.hid (HBx.out.trans (HK10.out.mono (by omega)))
            clear hk10 z0 z1 z2 z3 z4 z5 z6 y0 y1 y2 y3 y4 y5 y6
            go_wp2_with fail
            refine By.upon HP10.out ?_
            go_wp2_with fail
            refine By.upon (HZ.out _ HBW10.out) ?_
            have ho := offA_eq qa qc xs.length
            have i1 : (0 : Int) ≤ (xs.length : Int) := by omega
            have i3 : (xs.length : Int) ≤ (qc : Int) := by omega
            have HBY10 := Lib.hid (((HBY.out.below HK10.out (fun b hb => by have := HQA.out b hb; omega))).from xs.length (Nat.le_refl _))
            go_wp2_with fail
            obtain ⟨g', rfl⟩ : ∃ g', gk = g' + 1 := ⟨gk - 1, by have := HJ.out; omega⟩
            go_roundg g'
            case measure => omega
            case rel => exact ⟨L.length + 1, offA qa qc xs.length, qc - xs.length, [], by have := HJ.out; omega, by go_num, by simp, by have h := HBY10.out; simpa using h, (restB_last _ _).2.symm, fun b hb => HQA.out b (offA_block hb), HKX.out.trans (HK10.out.mono hsx)⟩
          · obtain rfl : j = L.length + 1 := by have := HJ.out; omega
            obtain rfl : xs = [] := by rw [HXS.out, (restB_last _ _).2]
            clear z0 z1 z2 z3 z4 z5 z6
            go_wp2_with fail
            go_returns
            exact ⟨by simp, HBx.out⟩

end Go.Proofs.Ytaokhgpidifedaa
