/- A parameter read: one of the package qparam. -/
import Derived.Test.YtabdoikfcaiobaaParC
namespace Go.Proofs.Ytabdoikfcaiobaa
open Go.RowKit Go.Deep Go.Maps

/-- A parameter, its bytes, what is left behind it. -/
def oneR (xs : List UInt8) : Option (Int × List UInt8 × List UInt8) :=
  if rvE xs ≠ 0 then none
  else if rvE (xs.drop (rvL xs).toNat) ≠ 0 then none
  else if ((xs.drop (rvL xs).toNat).length : Int) - rvL (xs.drop (rvL xs).toNat) < rvV (xs.drop (rvL xs).toNat) then none
  else some (rvV xs, ((xs.drop (rvL xs).toNat).drop (rvL (xs.drop (rvL xs).toNat)).toNat).take (rvV (xs.drop (rvL xs).toNat)).toNat, (xs.drop (rvL xs).toNat).drop (rvL (xs.drop (rvL xs).toNat) + rvV (xs.drop (rvL xs).toNat)).toNat)

theorem oneR_1 {xs : List UInt8} (h : rvE xs = 20) : oneR xs = none := by unfold oneR; rw [h, if_pos (by decide)]
theorem oneR_2 {xs ys : List UInt8} {k : Nat} (h1 : rvE xs = 0) (h2 : rvL xs = k) (hy : xs.drop k = ys) (h3 : rvE ys = 20) : oneR xs = none := by
  unfold oneR; rw [h1, h2, Int.toNat_natCast, hy, h3, if_neg (by decide), if_pos (by decide)]
theorem oneR_3 {xs ys : List UInt8} {k j n : Nat} (h1 : rvE xs = 0) (h2 : rvL xs = k) (hy : xs.drop k = ys) (h3 : rvE ys = 0) (h5 : rvV ys = n) (h4 : rvL ys = j) (hm : (ys.length : Int) - j < n) : oneR xs = none := by
  unfold oneR; rw [h1, h2, Int.toNat_natCast, hy, h3, h4, h5, if_neg (by decide), if_neg (by decide), if_pos hm]
theorem oneR_4 {xs ys : List UInt8} {k j n : Nat} (h1 : rvE xs = 0) (h2 : rvL xs = k) (hy : xs.drop k = ys) (h3 : rvE ys = 0) (h5 : rvV ys = n) (h4 : rvL ys = j) (hm : ¬ (ys.length : Int) - j < n) : oneR xs = some (rvV xs, (ys.drop j).take n, ys.drop (j + n)) := by
  unfold oneR
  rw [h1, h2, Int.toNat_natCast, hy, h3, h4, h5, if_neg (by decide), if_neg (by decide), if_neg hm, show ((j : Int) + (n : Int)).toNat = j + n by omega, Int.toNat_natCast, Int.toNat_natCast]

def OneP (w : World) (a : Option Addr) (r : Option (Int × List UInt8 × List UInt8)) (e : Ending) (w' : World) : Prop :=
  Below w.heap.size w w' ∧ match r with
  | none => e = .returned (.tuple #[.agg #[.int .u64 0, .slice none 0 0], .slice none 0 0, .bool false])
  | some (t, ys, zs) => ∃ a1 n1 c1 a2 n2 c2, e = .returned (.tuple #[.agg #[.int .u64 t, .slice a1 n1 c1], .slice a2 n2 c2, .bool true]) ∧ Bo w.heap.size w' a1 n1 c1 ys ∧ By w' a2 n2 c2 zs ∧ a2.map (·.block) = a.map (·.block)

theorem offA_block (a : Option Addr) (cap lo : Nat) : (offA a cap lo).map (·.block) = a.map (·.block) := by
  unfold offA
  split
  · rfl
  · cases a with
    | none => rfl
    | some x =>
      simp only [Option.map_some, Addr.add]
      split <;> rfl

theorem By.drew2 {w : World} {a : Option Addr} {n cap : Nat} {xs : List UInt8} (h : By w a n cap xs) : By w.drew a n cap xs := ⟨h.1, h.2.drew⟩

theorem two_cells {w : World} {b : Nat} {v0 v1 : Value} {t : TypeId} (h : Blk w b #[v0, v1] t) :
    (w.cell? ⟨b, 0, none⟩ = some v0 ∧ w.cell? ⟨b, 1, none⟩ = some v1) ∧ w.frozen? ⟨b, 0, none⟩ = false ∧ w.frozen? ⟨b, 1, none⟩ = false := ⟨⟨h.cell 0, h.cell 1⟩, h.free 0, h.free 1⟩

set_option maxHeartbeats 1600000 in
theorem one_any (a : Option Addr) (m cap : Nat) (xs : List UInt8) (w : World) (hb : By w a m cap xs) (hl : m ≤ 1000000000) (hlt : ∀ b, a.map (·.block) = some b → b < w.heap.size) :
    Calls Try.prog 19 #[.slice a m cap] w (OneP w a (oneR xs)) := by
  have hcap := hb.2.le
  have hmax := hb.2.max
  unfold maxLen at hmax
  have HB := Lib.hid hb
  have HN := Lib.hid hb.1
  have HLT := Lib.hid hlt
  clear hb hlt
  have HR0 := Lib.hid (Blk.new w #[.int .u64 0, .slice none 0 0] 42)
  have HKW := Lib.hid ((Below.refl w.heap.size w).alloc (Nat.le_refl _) (.cells #[.int .u64 0, .slice none 0 0] 42 (0, 0)))
  obtain ⟨⟨p0, p1⟩, y0, y1⟩ := two_cells HR0.out
  have HBZ := Lib.hid ((HR0.out.set 0 (.int .u64 0)).set 1 (.slice none 0 0))
  have HKZ := Lib.hid ((HKW.out.setCell (p := ⟨w.heap.size, 0, none⟩) (Nat.le_refl _) (.int .u64 0)).setCell (p := ⟨w.heap.size, 1, none⟩) (Nat.le_refl _) (.slice none 0 0))
  rcases rv_facts xs with ⟨f1, f2, f3⟩ | ⟨k, k1, k8, kl, g1, g2, g3, g4⟩
  · have F1 := Lib.hid f1
    have F2 := Lib.hid f2
    have F3 := Lib.hid f3
    have HR := Lib.hid (oneR_1 f1)
    clear f1 f2 f3
    rw [HR.out]
    go_enter Try.func19, Try.ntmps19
    go_wp2_with fail
    refine (readvar_any a m cap xs _ (HB.out.alloc _)).mono ?_
    rintro e w' ⟨rfl, rfl⟩
    rw [F1.out, F2.out, F3.out]
    go_wp2_with fail
    go_returns
    exact ⟨HKW.out, rfl⟩
  · have G1 := Lib.hid g1
    have G2 := Lib.hid g2
    clear g1 g2
    have ho := offA_eq a cap k
    generalize hr : oneR xs = r at *
    have HRR := Lib.hid hr
    clear hr
    go_enter Try.func19, Try.ntmps19
    go_wp2_with fail
    refine (readvar_any a m cap xs _ (HB.out.alloc _)).mono ?_
    rintro e w' ⟨rfl, rfl⟩
    rw [G1.out, G2.out]
    have hkm : k ≤ m := by have := HN.out; omega
    have hlen2 : (xs.drop k).length = m - k := by rw [List.length_drop, ← HN.out]
    have HB2 := Lib.hid ((HB.out.from k hkm).alloc (.cells #[.int .u64 0, .slice none 0 0] 42 (0, 0)))
    have HBK := Lib.hid (offA_block a cap k)
    have hm1 : m - k ≤ 1000000000 := by omega
    have hc1 : m - k ≤ cap - k := by omega
    generalize hvx : rvV xs = v at *
    generalize hys : xs.drop k = ys at *
    have HYS := Lib.hid hys
    clear hys
    go_wp2_with fail
    generalize offA a cap k = a1 at *
    generalize cap - k = c1 at *
    generalize m - k = m1 at *
    clear ho
    refine (readvar_any _ _ _ ys _ HB2.out).mono ?_
    rintro e w' ⟨rfl, rfl⟩
    rcases rv_facts ys with ⟨f1, f2, f3⟩ | ⟨j, j1, j8, jl, f1, f2, f3, f4⟩
    · have F1 := Lib.hid f1
      have F2 := Lib.hid f2
      obtain rfl := HRR.out.symm.trans (oneR_2 G2.out G1.out HYS.out f1)
      clear f1 f2
      rw [F1.out, F2.out, f3]
      go_wp2_with fail
      go_returns
      exact ⟨HKW.out, rfl⟩
    · have F1 := Lib.hid f1
      have F2 := Lib.hid f2
      clear f1 f2
      rw [F1.out, F2.out]
      generalize hv2 : rvV ys = v2 at *
      obtain ⟨n2, rfl⟩ : ∃ n2 : Nat, v2 = n2 := ⟨v2.toNat, by omega⟩
      have HV2 := Lib.hid hv2
      clear hv2
      by_cases hmore : (m1 : Int) - j < n2
      · obtain rfl := HRR.out.symm.trans (oneR_3 G2.out G1.out HYS.out F2.out HV2.out F1.out (by rw [hlen2]; exact hmore))
        go_wp2_with fail
        go_returns
        exact ⟨HKW.out, rfl⟩
      · obtain rfl := HRR.out.symm.trans (oneR_4 G2.out G1.out HYS.out F2.out HV2.out F1.out (by rw [hlen2]; exact hmore))
        have hjn : j + n2 ≤ m1 := by omega
        have ho2 := offA_eq a1 c1 j
        have ho3 := offA_eq a1 c1 (j + n2)
        have ho4 : (if c1 = ((j : Int) + (n2 : Int)).toNat then a1 else a1.map (fun x => x.add ((j : Int) + (n2 : Int)).toNat)) = offA a1 c1 (j + n2) := by rw [show ((j : Int) + (n2 : Int)).toNat = j + n2 by omega]; rfl
        have ho5 : ((j : Int) + (n2 : Int)).toNat = j + n2 := by omega
        have x1 : (0 : Int) ≤ (j : Int) := by omega
        have x2 : (j : Int) ≤ (j : Int) + (n2 : Int) := by omega
        have x3 : (j : Int) + (n2 : Int) ≤ (c1 : Int) := by omega
        have x4 : (j : Int) + (n2 : Int) ≤ (m1 : Int) := by omega
        have x5 : (0 : Int) ≤ (j : Int) + (n2 : Int) := by omega
        have x6 : (m1 : Int) ≤ (c1 : Int) := by omega
        go_wp2_with fail
        refine wp_region_held (S := fun _ => True) (by kernel_rfl) ?_
        change wpAnyH _ _ _ _ _ _ _ _ (World.drew _)
        have hS : True := trivial
        refine wpAnyH_take (i := 0) (v := ?_) rfl (by kernel_rfl) (by kernel_rfl) (by kernel_rfl) (fun _ _ _ h => h) (Or.inl ⟨by kernel_rfl, ?_⟩) hS ?_
        rotate_left
        · intro wz _; go_simp; try with_reducible rfl
        refine wpAnyH_take (i := 1) (v := ?_) rfl (by kernel_rfl) (by kernel_rfl) (by kernel_rfl) (fun _ _ _ h => h) (Or.inl ⟨by kernel_rfl, ?_⟩) hS ?_
        rotate_left
        · intro wz _; go_simp; try with_reducible rfl
        refine wpAnyH_take (i := 2) (v := ?_) rfl (by kernel_rfl) (by kernel_rfl) (by kernel_rfl) (fun _ _ _ h => h) (Or.inl ⟨by kernel_rfl, ?_⟩) hS ?_
        rotate_left
        · intro wz _; go_simp; try with_reducible rfl
        refine wpAnyH_take (i := 3) (v := ?_) rfl (by kernel_rfl) (by kernel_rfl) (by kernel_rfl) (fun _ _ _ h => h) (Or.inl ⟨by kernel_rfl, ?_⟩) hS ?_
        rotate_left
        · intro wz _; go_simp; try with_reducible rfl
        refine wpAnyH_take (i := 4) (v := ?_) rfl (by kernel_rfl) (by kernel_rfl) (by kernel_rfl) (fun _ _ _ h => h) (Or.inl ⟨by kernel_rfl, ?_⟩) hS ?_
        rotate_left
        · intro wz _; go_simp; try with_reducible rfl
        refine wpAnyH_take (i := 7) (v := ?_) rfl (by kernel_rfl) (by kernel_rfl) (by kernel_rfl) (fun _ _ _ h => h) (Or.inl ⟨by kernel_rfl, ?_⟩) hS ?_
        rotate_left
        · intro wz _; go_simp; try with_reducible rfl
        refine wpAnyH_take (i := 8) (v := ?_) rfl (by kernel_rfl) (by kernel_rfl) (by kernel_rfl) (fun _ _ _ h => h) (Or.inl ⟨by kernel_rfl, ?_⟩) hS ?_
        rotate_left
        · intro wz _; go_simp; try with_reducible rfl
        refine wpAnyH_take (i := 9) (v := ?_) rfl (by kernel_rfl) (by kernel_rfl) (by kernel_rfl) (fun _ _ _ h => h) (Or.inl ⟨by kernel_rfl, ?_⟩) hS ?_
        rotate_left
        · intro wz _; go_simp; try with_reducible rfl
        obtain ⟨i0, hi0, hz0, hz1, hz2⟩ := info_parts info8
        have HSRC := Lib.hid (HB2.out.mid j (j + n2) (by omega) hjn)
        rw [show j + n2 - j = n2 by omega] at HSRC
        have HRST := Lib.hid (HB2.out.from (j + n2) hjn)
        have HBLO := Lib.hid (offA_block a1 c1 (j + n2))
        have HDR : Hid (Below w.heap.size w (w.alloc (.cells #[.int .u64 0, .slice none 0 0] 42 (0, 0))).drew) := HKW.out.drew
        refine held_app (i := 5) rfl (by kernel_rfl) (by kernel_rfl) (.const (.slice none 0 0)) (.tmp 48) 25 25 rfl (w.heap.size + 1) 5 i0 _ 1 1 Try.underlying25 hi0 hz0 hz1 hz2 rfl none 0 0 (Bs []) (by kernel_rfl) (Dst.nil _ _ _ _) (.slice (offA a1 c1 j) n2 (c1 - j)) (by kernel_rfl) n2 (Bs ((ys.drop j).take n2)) ((By.drew2 HSRC.out).2.src Try.underlying25 (Bs_one _)) (by unfold maxLen; omega) (by omega) (by show _ ≤ (w.alloc (.cells #[.int .u64 0, .slice none 0 0] 42 (0, 0))).heap.size; simp) ?_
        intro a6 c6 w6 _ hk6 _ hown6 hnil6
        have hbo : Bo (w.heap.size + 1) w6 a6 n2 c6 ((ys.drop j).take n2) := by
          have hlen : ((ys.drop j).take n2).length = n2 := HSRC.out.1.symm
          by_cases h0 : n2 = 0
          · obtain ⟨rfl, rfl, rfl⟩ := hnil6 h0
            subst h0
            simpa using Bo.nil _ _
          · refine ⟨hlen.symm, ?_⟩
            have h := hown6 (by omega)
            rwa [Nat.zero_add] at h
        have HO6 := Lib.hid hbo
        have HK6 := Lib.hid (Keeps.mine_below HDR.out hk6 HDR.out.size (Nat.le_succ _))
        have HR6 := Lib.hid (hk6.blk HR0.out.drew (fun h => by have := h.1; omega))
        have HZ6 := Lib.hid ((By.drew2 HRST.out).keep hk6 (fun b hb h => by have := HLT.out b (by rw [← HBK.out, ← HBLO.out]; exact hb); have := h.1; omega))
        clear hk6 hown6 hnil6 hbo hi0 hz0 hz1 hz2
        refine ⟨hS, ?_⟩
        refine wpAnyH_take (i := 6) (v := ?_) rfl (by kernel_rfl) (by kernel_rfl) (by kernel_rfl) (fun _ _ _ h => h) (Or.inl ⟨by kernel_rfl, ?_⟩) hS ?_
        rotate_left
        · intro wz _; go_simp; try with_reducible rfl
        clear p0 p1 y0 y1
        obtain ⟨⟨p0, p1⟩, y0, y1⟩ := two_cells HR6.out
        have HBF := Lib.hid ((HR6.out.set 0 (.int .u64 v)).set 1 (.slice a6 n2 c6))
        have hkF := ((Keeps.refl (fun k => k = w.heap.size) w6).put 0 (.int .u64 v)).put 1 (.slice a6 n2 c6)
        have HOF := Lib.hid (HO6.out.keep hkF (fun b hb h => by have := (HO6.out.ge b hb).1; omega))
        have HZF := Lib.hid (HZ6.out.keep hkF (fun b hb h => by have := HLT.out b (by rw [← HBK.out, ← HBLO.out]; exact hb); omega))
        have HKF := Lib.hid (Keeps.below HK6.out hkF HK6.out.size (fun k hk => by omega))
        refine held_skip (i := 10) ((w6.setCell ⟨w.heap.size, 0, none⟩ (.int .u64 v)).setCell ⟨w.heap.size, 1, none⟩ (.slice a6 n2 c6)) rfl (by kernel_rfl) (by kernel_rfl) ?_ hS ?_
        · go_simp; try with_reducible rfl
        clear p0 p1 y0 y1
        refine wpAnyH_take (i := 11) (v := ?_) rfl (by kernel_rfl) (by kernel_rfl) (by kernel_rfl) (fun _ _ _ h => h) (Or.inl ⟨by kernel_rfl, ?_⟩) hS ?_
        rotate_left
        · intro wz _; go_simp; try with_reducible rfl
        refine wpAnyH_take (i := 12) (v := ?_) rfl (by kernel_rfl) (by kernel_rfl) (by kernel_rfl) (fun _ _ _ h => h) (Or.inl ⟨by kernel_rfl, ?_⟩) hS ?_
        rotate_left
        · intro wz _; go_simp; try with_reducible rfl
        refine wpAnyH_done (by kernel_rfl) ?_ _
        obtain ⟨⟨s0, s1⟩, _⟩ := two_cells HBF.out
        go_wp2_with fail
        (try simp only [Exit.inBlock, Exit.then])
        refine bodyPost_ret (by simp [results, Try.results19, go_sem, s0, s1]; try rfl) rfl ?_
        refine ⟨HKF.out, ?_⟩
        exact ⟨a6, n2, c6, _, _, _, rfl, HOF.out.mono (Nat.le_succ _), HZF.out, HBLO.out.trans HBK.out⟩

end Go.Proofs.Ytabdoikfcaiobaa
