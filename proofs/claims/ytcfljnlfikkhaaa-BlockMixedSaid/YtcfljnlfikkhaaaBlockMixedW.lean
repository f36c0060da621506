/- The walk of BlockMixed. -/
import Derived.Test.YtcfljnlfikkhaaaBlkL
import Derived.Test.YtcfljnlfikkhaaaBlkJ
import Derived.Test.YtcfljnlfikkhaaaBlkE
namespace Go.Proofs.Ytcfljnlfikkhaaa
open Go.RowKit Go.Deep

theorem conv_one (w : World) (x : Value) (g : Nat) (hg : g = w.heap.size) : (convert 29 29 (.slice (some ⟨g, 0, none⟩) 1 1)).run Try.prog (w.alloc (.cells #[x] 5 (0, 0))) = .ok (.slice (some ⟨g, 0, none⟩) 1 1) (w.alloc (.cells #[x] 5 (1, 2))) := by
  subst hg
  exact Lib.run_convert_bytes_const w 29 5 #[x] 1 1 Try.underlying29 Try.underlying5

theorem spS_st {most st : Int} {en : Bool} {p : Nat} {ys : List UInt8} {i : Nat} (h : i ≠ 0) : (spS most st en p ys i).st = st := by unfold spS; rw [if_neg h]

set_option maxRecDepth 100000 in
set_option maxHeartbeats 6400000 in
theorem walkBlockMixed (w : World) (a0 : Int) (h0 : (Lit.int .u8 a0).wf = true) (a1 : Int) (h1 : (Lit.int .u32 a1).wf = true) (a2 : Int) (h2 : (Lit.int .u8 a2).wf = true) (v3 : Value) (h3 : Arg Try.prog w 29 v3) :
    Calls Try.prog 5 #[.int .u8 a0, .int .u32 a1, .int .u8 a2, v3] w fun e w' => e = .returned (.bool true) ∧ Below w.heap.size w w' := by
  obtain ⟨t0, t1⟩ := wf_u8_iff h0
  obtain ⟨s0, s1⟩ := wf_u32_iff h1
  obtain ⟨n0, n1⟩ := wf_u8_iff h2
  obtain ⟨a, n, cap, xs, rfl, hby, hkeep⟩ := h3.bytes
  have HKEEP := Lib.hid hkeep
  have HXL := Lib.hid hby.1
  have hnm : n ≤ maxLen := Nat.le_trans hby.2.le hby.2.max
  unfold maxLen at hnm
  clear h0 h1 h2 h3 hby hkeep
  go_enter Try.func5, Try.ntmps5
  go_wp2_with fail
  refine (known_any w).mono ?_
  rintro e w1 ⟨rfl, hk1⟩
  have HK1 := Lib.hid hk1
  clear hk1
  by_cases hn100 : 100 < n
  · go_wp2_with fail
    go_returns
    exact ⟨rfl, HK1.out⟩
  go_wp2_with fail
  obtain ⟨d, hd1, hd2, hd3⟩ : ∃ d : Int, IntKind.i64.wrap (IntKind.u8.wrap (a2.tmod 4 + 1)) = d ∧ ¬ d = 0 ∧ 0 < d := by
    refine ⟨_, rfl, ?_⟩
    rw [IntKind.wrap_i64, IntKind.wrap_u8, Int.tmod_eq_emod_of_nonneg n0]
    omega
  obtain ⟨p, hp1, hp2, hp3⟩ : ∃ p : Nat, IntKind.i64.wrap (IntKind.i64.wrap ((n : Int) / d) + 1) = (p : Int) ∧ 1 ≤ p ∧ p ≤ 101 := by
    have h1 : 0 ≤ (n : Int) / d := Int.ediv_nonneg (by omega) (by omega)
    have h2 : (n : Int) / d ≤ n := Int.ediv_le_self _ (by omega)
    refine ⟨((n : Int) / d + 1).toNat, ?_, by omega, by omega⟩
    rw [IntKind.wrap_i64, IntKind.wrap_i64]
    omega
  refine wp_region_held (S := fun _ : World => True) (by kernel_rfl) ?_
  change wpAnyH _ _ _ _ _ _ _ _ (World.drew _)
  have hS : (fun _ : World => True) w1.drew := trivial
  refine wpAnyH_take (i := 2) (v := ?_) rfl (by kernel_rfl) (by kernel_rfl) (by kernel_rfl) (fun _ _ _ h => h) (Or.inl ⟨by kernel_rfl, ?_⟩) hS ?_
  rotate_left
  · intro wz _; go_simp; try with_reducible rfl
  refine wpAnyH_take (i := 4) (v := ?_) rfl (by kernel_rfl) (by kernel_rfl) (by kernel_rfl) (fun _ _ _ h => h) (Or.inl ⟨by kernel_rfl, ?_⟩) hS ?_
  rotate_left
  · intro wz _; go_simp; try with_reducible rfl
  refine wpAnyH_take (i := 5) (v := ?_) rfl (by kernel_rfl) (by kernel_rfl) (by kernel_rfl) (fun _ _ _ h => h) (Or.inl ⟨by kernel_rfl, ?_⟩) hS ?_
  rotate_left
  · intro wz _; go_simp; try with_reducible rfl
  refine wpAnyH_take (i := 6) (v := ?_) rfl (by kernel_rfl) (by kernel_rfl) (by kernel_rfl) (fun _ _ _ h => h) (Or.inl ⟨by kernel_rfl, ?_⟩) hS ?_
  rotate_left
  · intro wz _; go_simp; try with_reducible rfl
  refine wpAnyH_take (i := 7) (v := ?_) rfl (by kernel_rfl) (by kernel_rfl) (by kernel_rfl) (fun _ _ _ h => h) (Or.inl ⟨by kernel_rfl, ?_⟩) hS ?_
  rotate_left
  · intro wz _; go_simp; try with_reducible rfl
  refine wpAnyH_take (i := 8) (v := ?_) rfl (by kernel_rfl) (by kernel_rfl) (by kernel_rfl) (fun _ _ _ h => h) (Or.inl ⟨by kernel_rfl, ?_⟩) hS ?_
  rotate_left
  · intro wz _; go_simp; try with_reducible rfl
  refine wpAnyH_take (i := 9) (v := ?_) rfl (by kernel_rfl) (by kernel_rfl) (by kernel_rfl) (fun _ _ _ h => h) (Or.inl ⟨by kernel_rfl, ?_⟩) hS ?_
  rotate_left
  · intro wz _; go_simp; try with_reducible rfl
  refine wpAnyH_take (i := 10) (v := ?_) rfl (by kernel_rfl) (by kernel_rfl) (by kernel_rfl) (fun _ _ _ h => h) (Or.inl ⟨by kernel_rfl, ?_⟩) hS ?_
  rotate_left
  · intro wz _; go_simp; try with_reducible rfl
  refine wpAnyH_take (i := 11) (v := ?_) rfl (by kernel_rfl) (by kernel_rfl) (by kernel_rfl) (fun _ _ _ h => h) (Or.inl ⟨by kernel_rfl, ?_⟩) hS ?_
  rotate_left
  · intro wz _; go_simp; try with_reducible rfl
  refine held_do (i := 0) (.slice (some ⟨w1.heap.size, 0, none⟩) 1 1) (w1.drew.alloc (.cells #[.int .u8 120] 5 (0, 0))) rfl (by kernel_rfl) (by kernel_rfl) ?_ trivial ?_
  · go_simp; try with_reducible rfl
  refine held_do (i := 1) (.slice (some ⟨w1.heap.size, 0, none⟩) 1 1) (w1.drew.alloc (.cells #[.int .u8 120] 5 (1, 2))) rfl (by kernel_rfl) (by kernel_rfl) ?_ trivial ?_
  · have hcv : (convert 29 29 (.slice (some ⟨w1.heap.size, 0, none⟩) 1 1)).run Try.prog (w1.alloc (.cells #[.int .u8 120] 5 (0, 0))).drew = .ok (.slice (some ⟨w1.heap.size, 0, none⟩) 1 1) (w1.alloc (.cells #[.int .u8 120] 5 (1, 2))).drew := conv_one w1.drew (.int .u8 120) w1.heap.size rfl
    go_simp
  refine held_full (i := 3) rfl (by kernel_rfl) (by kernel_rfl) (.tmp 29) (.tmp 30) rfl (some ⟨w1.heap.size, 0, none⟩) 1 [120] (by kernel_rfl) (By.mark w1.drew [120] _ 5 (1, 2) (by decide) rfl) a n cap xs (by kernel_rfl) (HKEEP.out _ (((HK1.out.drew).alloc HK1.out.size _))) (by omega) ?_
  intro a3 c3 w3 hy3 hk3 hg3
  refine ⟨trivial, ?_⟩
  refine held_call (i := 12) 14 #[.int .u32 7, .bool false, .slice a3 (1 + n) c3, .int .i64 (p : Int)] rfl (by kernel_rfl) (by kernel_rfl) ?_ ?_
  · go_simp; try with_reducible rfl
  clear hd1 hp1
  have HY3 : Hid (By w3 a3 (1 + n) c3 (120 :: xs)) := Lib.hid hy3
  have HK3 : Hid (Below w.heap.size w w3) := Lib.hid (Keeps.below (HK1.out.drew.alloc HK1.out.size _) hk3 (by have := HK1.out.size; simp; omega) (fun k h => False.elim h))
  clear hy3 hk3 hg3
  refine (rsplit_any 7 p a3 (1 + n) c3 (120 :: xs) w3 HY3.out (by omega) hp2 (by omega)).mono ?_
  rintro e w4 ⟨a4, c4, l, rfl, hq4, hsp4, hl4, hm4, hn4, hk4⟩
  refine ⟨_, rfl, trivial, ?_⟩
  have hS : (fun _ : World => True) w4 := trivial
  refine wpAnyH_take (i := 13) (v := ?_) rfl (by kernel_rfl) (by kernel_rfl) (by kernel_rfl) (fun _ _ _ h => h) (Or.inl ⟨by kernel_rfl, ?_⟩) hS ?_
  rotate_left
  · intro wz _; go_simp; try with_reducible rfl
  refine wpAnyH_done (by kernel_rfl) ?_ _
  refine then_named fun b9 hb9 => ?_
  subst hb9
  have HQ4 := Lib.hid hq4
  have HSP := Lib.hid hsp4
  have HL4 := Lib.hid hl4
  have HM4 := Lib.hid hm4
  have HN4 := Lib.hid hn4
  have HK4 := Lib.hid (HK3.out.trans (hk4.mono HK3.out.size))
  clear hq4 hsp4 hl4 hm4 hn4 hk4 hS
  go_wp2_with fail
  refine (new_any 200 w4 (by omega) (by omega)).mono ?_
  rintro e w5 ⟨rfl, hw5⟩
  have HP5 : Hid (PkM (w4.heap.size + 1) w5 w4.heap.size (bk0 200)) := Lib.hid (by rw [hw5]; exact PkM.new w4 200 _ rfl)
  have HK5 : Hid (Below w.heap.size w w5) := Lib.hid (by rw [hw5]; exact HK4.out.alloc HK4.out.size _)
  have HB5 : Hid (Below w4.heap.size w4 w5) := Lib.hid (by rw [hw5]; exact (Below.refl _ _).alloc (Nat.le_refl _) _)
  have hs5 : w5.heap.size = w4.heap.size + 1 := by rw [hw5]; simp
  have HS5 := Lib.hid hs5
  clear hw5 hs5
  obtain ⟨T, hT1, hT2, hT3⟩ : ∃ T : Int, a0 % 11 = T ∧ 0 ≤ T ∧ T ≤ 10 := ⟨_, rfl, by omega, by omega⟩
  obtain ⟨X, hX1, hX2, hX3⟩ : ∃ X : Int, a1 % 9 = X ∧ 0 ≤ X ∧ X ≤ 8 := ⟨_, rfl, by omega, by omega⟩
  go_wp2_with (refine wpList_make8 _ rfl _ _ rfl 8 rfl rfl (by omega) ?_; intro w6 ho6 hk6; refine halt ?_)
  have HO6 := Lib.hid ho6
  have HK6 := Lib.hid (HK5.out.trans (hk6.mono HK5.out.size))
  have HB6 : Hid (Below w4.heap.size w4 w6) := Lib.hid (HB5.out.trans (hk6.mono (by have := HS5.out; omega)))
  have HP6 := Lib.hid (HP5.out.keep (below_no hk6) (fun _ h => False.elim h) (fun h => h))
  have hs6 : w5.heap.size ≤ w6.heap.size := hk6.size
  have HS6 := Lib.hid hs6
  clear ho6 hk6 hs6 HP5 HB5
  refine Halted.go ?_
  go_upto_region 8 with fail
  clear hT1 hX1
  refine wp_named ?_
  intro w7 hw7
  have HF7 : Hid (Blk w7 w6.heap.size #[.int .u8 T, .int .u8 0, .int .u32 X, .slice (some ⟨w5.heap.size, 0, none⟩) 8 8] 33) := Lib.hid (by rw [← hw7]; exact Blk.new _ _ _)
  have HZ7 : Hid (By w7 (some ⟨w5.heap.size, 0, none⟩) 8 8 (List.replicate 8 0)) := Lib.hid (by rw [← hw7]; exact HO6.out.by.alloc _)
  have HP7 : Hid (PkM (w4.heap.size + 1) w7 w4.heap.size (bk0 200)) := Lib.hid (by rw [← hw7]; exact HP6.out.keep ((Keeps.refl (fun _ => False) w6).alloc _) (fun _ h => False.elim h) (fun h => h))
  have HK7 : Hid (Below w.heap.size w w7) := Lib.hid (by rw [← hw7]; exact HK6.out.alloc HK6.out.size _)
  have HB7 : Hid (Below w4.heap.size w4 w7) := Lib.hid (by rw [← hw7]; exact HB6.out.alloc HB6.out.size _)
  clear hw7 HP6 HO6 HB6 HK6
  have HYL : Hid ((120 :: xs : List UInt8).length = n + 1) := by show _ = _; have := HXL.out; simp; omega
  have hll : l.length ≤ 200 := by
    have h1 := HN4.out
    have h2 := HYL.out
    rcases h1 with h | h
    · omega
    · have h3 : l.length - 1 ≤ (l.length - 1) * p := Nat.le_mul_of_pos_right _ hp2
      omega
  generalize hys : (120 :: xs : List UInt8) = ys at *
  have HYS := Lib.hid hys
  clear hys
  have HSB : Hid (w.heap.size ≤ w4.heap.size) := HK4.out.size
  go_wp2_with fail
  go_loopg [12] l.length (fun k vi wr => ∃ i : Nat, vi = .int .i64 i ∧ k + i = l.length ∧ PkM (w4.heap.size + 1) wr w4.heap.size (spS 200 7 false p ys i) ∧ Blk wr w6.heap.size #[.int .u8 T, .int .u8 0, .int .u32 X, .slice (some ⟨w5.heap.size, 0, none⟩) 8 8] 33 ∧ By wr (some ⟨w5.heap.size, 0, none⟩) 8 8 (List.replicate 8 0) ∧ Below w4.heap.size w4 wr ∧ Below w.heap.size w wr)
  case atStart => exact ⟨0, rfl, by omega, HP7.out, HF7.out, HZ7.out, HB7.out, HK7.out⟩
  case round =>
    obtain ⟨i, rfl, hk, hp, hf, hz, hb, hkw⟩ := hrel
    have HI := Lib.hid hk
    have HP := Lib.hid hp
    have HF := Lib.hid hf
    have HZ := Lib.hid hz
    have HB := Lib.hid hb
    have HKW := Lib.hid hkw
    clear hk hp hf hz hb hkw HP7 HF7 HZ7 HB7 HK7
    by_cases hil : i < l.length
    · have hop := sp_opens HN4.out hil
      have HOP := Lib.hid hop
      have HSOK : Hid ((spS 200 7 false p ys i).Ok) := Lib.hid (spS_ok (by omega) (by omega) (by omega) (by omega) (.inr (by have := HYL.out; simp; omega)))
      clear hop
      by_cases h0 : i = 0
      · have ho : (spS 200 7 false p ys i).opn = false := by rw [h0]; rfl
        have HO := Lib.hid ho
        clear ho h0
        go_wp2_with fail
        refine (open_any _ _ _ wr HP.out).mono ?_
        rintro e w' ⟨rfl, rfl⟩
        rw [HO.out]
        obtain ⟨bb, oo, hab, _, ⟨g0, g1, g2, g3⟩, hy⟩ := (HQ4.out.keep (Below.keeps HB.out) (fun b h => .inr h)).get i hil
        subst hab
        have hsp := HSP.out i hil
        have hfn : l[i].n ≤ 1000000 := by
          have h1 := hy.1
          have h2 := hsp.2.2.2
          have h3 : (spX p ys i).length ≤ p := by unfold spX; rw [List.length_take]; omega
          rw [← h2] at h3
          omega
        have hst := sp_takes (most := 200) hsp (by decide) HOP.out (by have := HYL.out; simp; omega)
        have HST := Lib.hid hst
        have HY := Lib.hid hy
        clear hsp hst hy
        generalize l[i] = f at *
        go_wp2_with fail
        refine (add_any _ _ _ f.t f.fl f.st f.a f.n f.cap f.xs wr HP.out HSOK.out HY.out hfn).mono ?_
        rintro e w9 ⟨rfl, hp9, hk9⟩
        rw [HST.out.1]
        rw [HST.out.2.1] at hp9
        have HP9 := Lib.hid hp9
        have HF9 := Lib.hid (hk9.blk HF.out (by have := HS6.out; have := HS5.out; omega))
        have HZ9 := Lib.hid (HZ.out.keep hk9 (fun b hb e => by have := HS5.out; simp at hb; omega))
        have HB9 : Hid (Below w4.heap.size w4 w9) := Lib.hid (Keeps.below HB.out hk9 HB.out.size (fun k h => by omega))
        have HK9 : Hid (Below w.heap.size w w9) := Lib.hid (Keeps.below HKW.out hk9 HKW.out.size (fun k h => by have := HSB.out; omega))
        clear hp9 hk9 g0 g1 g2 g3
        obtain ⟨g, rfl⟩ : ∃ g, gk = g + 1 := ⟨gk - 1, by have := HI.out; omega⟩
        go_wp2_with fail
        go_roundg g
        case measure => omega
        case rel => exact ⟨i + 1, by go_num, by have := HI.out; omega, HP9.out, HF9.out, HZ9.out, HB9.out, HK9.out⟩
      · have ho : (spS 200 7 false p ys i).opn = true := by
          have h1 : i * p < ys.length := by rcases HOP.out with h | h; exact absurd h h0; exact h
          unfold spS
          rw [if_neg h0]
          show (!spL p ys.length (i - 1)) = true
          unfold spL
          rw [show i - 1 + 1 = i by omega]
          simpa using h1
        have HO := Lib.hid ho
        obtain ⟨⟨c0, c1, c2, c3⟩, _⟩ := fr_cells HF.out
        clear ho
        by_cases h9 : T = 9
        · have h9b : (T != 9) = false := by simp [h9]
          by_cases h7 : X = 7
          · have h7b : (X != 7) = false := by simp [h7]
            clear h9 h7
            go_wp2_with fail
            refine (open_any _ _ _ wr HP.out).mono ?_
            rintro e w' ⟨rfl, rfl⟩
            rw [HO.out]
            clear c3
            obtain ⟨bb, oo, hab, _, ⟨g0, g1, g2, g3⟩, hy⟩ := (HQ4.out.keep (Below.keeps HB.out) (fun b h => .inr h)).get i hil
            subst hab
            have hsp := HSP.out i hil
            have hfn : l[i].n ≤ 1000000 := by
              have h1 := hy.1
              have h2 := hsp.2.2.2
              have h3 : (spX p ys i).length ≤ p := by unfold spX; rw [List.length_take]; omega
              rw [← h2] at h3
              omega
            have hst := sp_takes (most := 200) hsp (by decide) HOP.out (by have := HYL.out; simp; omega)
            have HST := Lib.hid hst
            have HY := Lib.hid hy
            clear hsp hst hy
            generalize l[i] = f at *
            go_wp2_with fail
            refine (add_any _ _ _ f.t f.fl f.st f.a f.n f.cap f.xs wr HP.out HSOK.out HY.out hfn).mono ?_
            rintro e w9 ⟨rfl, hp9, hk9⟩
            rw [HST.out.1]
            rw [HST.out.2.1] at hp9
            have HP9 := Lib.hid hp9
            have HF9 := Lib.hid (hk9.blk HF.out (by have := HS6.out; have := HS5.out; omega))
            have HZ9 := Lib.hid (HZ.out.keep hk9 (fun b hb e => by have := HS5.out; simp at hb; omega))
            have HB9 : Hid (Below w4.heap.size w4 w9) := Lib.hid (Keeps.below HB.out hk9 HB.out.size (fun k h => by omega))
            have HK9 : Hid (Below w.heap.size w w9) := Lib.hid (Keeps.below HKW.out hk9 HKW.out.size (fun k h => by have := HSB.out; omega))
            clear hp9 hk9 g0 g1 g2 g3
            obtain ⟨g, rfl⟩ : ∃ g, gk = g + 1 := ⟨gk - 1, by have := HI.out; omega⟩
            go_wp2_with fail
            go_roundg g
            case measure => omega
            case rel => exact ⟨i + 1, by go_num, by have := HI.out; omega, HP9.out, HF9.out, HZ9.out, HB9.out, HK9.out⟩
          · have h7b : (X != 7) = true := by simpa using h7
            have HM : Hid ((spS 200 7 false p ys i).may T X = false) := by show _ = _; unfold Bk.may; rw [HO.out, if_pos rfl, spS_st (by omega)]; simp [h7]
            clear h9 h7
            have HR : Hid ((spS 200 7 false p ys i).done T 0 X (List.replicate 8 0) = false ∧ (spS 200 7 false p ys i).rule T 0 X (List.replicate 8 0) = 6 ∧ (spS 200 7 false p ys i).add T 0 X (List.replicate 8 0) = spS 200 7 false p ys i) := Lib.hid ⟨(add_not (takes_may HM.out)).2, by unfold Bk.rule; rw [if_pos HM.out], (add_not (takes_may HM.out)).1⟩
            go_wp2_with fail
            refine (open_any _ _ _ wr HP.out).mono ?_
            rintro e w' ⟨rfl, rfl⟩
            rw [HO.out]
            go_wp2_with fail
            refine (add_any _ _ _ T 0 X _ 8 8 (List.replicate 8 0) wr HP.out HSOK.out HZ.out (by omega)).mono ?_
            rintro e w8 ⟨rfl, hp8, hk8⟩
            rw [HR.out.1, HR.out.2.1]
            rw [HR.out.2.2] at hp8
            have HP8 := Lib.hid hp8
            have HF8 := Lib.hid (hk8.blk HF.out (by have := HS6.out; have := HS5.out; omega))
            have HZ8 := Lib.hid (HZ.out.keep hk8 (fun b hb e => by have := HS5.out; simp at hb; omega))
            have HB8 : Hid (Below w4.heap.size w4 w8) := Lib.hid (Keeps.below HB.out hk8 HB.out.size (fun k h => by omega))
            have HK8 : Hid (Below w.heap.size w w8) := Lib.hid (Keeps.below HKW.out hk8 HKW.out.size (fun k h => by have := HSB.out; omega))
            clear hp8 hk8 c0 c1 c2 c3
            go_wp2_with fail
            refine (open_any _ _ _ w8 HP8.out).mono ?_
            rintro e w' ⟨rfl, rfl⟩
            rw [HO.out]
            obtain ⟨bb, oo, hab, _, ⟨g0, g1, g2, g3⟩, hy⟩ := (HQ4.out.keep (Below.keeps HB8.out) (fun b h => .inr h)).get i hil
            subst hab
            have hsp := HSP.out i hil
            have hfn : l[i].n ≤ 1000000 := by
              have h1 := hy.1
              have h2 := hsp.2.2.2
              have h3 : (spX p ys i).length ≤ p := by unfold spX; rw [List.length_take]; omega
              rw [← h2] at h3
              omega
            have hst := sp_takes (most := 200) hsp (by decide) HOP.out (by have := HYL.out; simp; omega)
            have HST := Lib.hid hst
            have HY := Lib.hid hy
            clear hsp hst hy
            generalize l[i] = f at *
            go_wp2_with fail
            refine (add_any _ _ _ f.t f.fl f.st f.a f.n f.cap f.xs w8 HP8.out HSOK.out HY.out hfn).mono ?_
            rintro e w9 ⟨rfl, hp9, hk9⟩
            rw [HST.out.1]
            rw [HST.out.2.1] at hp9
            have HP9 := Lib.hid hp9
            have HF9 := Lib.hid (hk9.blk HF8.out (by have := HS6.out; have := HS5.out; omega))
            have HZ9 := Lib.hid (HZ8.out.keep hk9 (fun b hb e => by have := HS5.out; simp at hb; omega))
            have HB9 : Hid (Below w4.heap.size w4 w9) := Lib.hid (Keeps.below HB8.out hk9 HB8.out.size (fun k h => by omega))
            have HK9 : Hid (Below w.heap.size w w9) := Lib.hid (Keeps.below HK8.out hk9 HK8.out.size (fun k h => by have := HSB.out; omega))
            clear hp9 hk9 g0 g1 g2 g3
            obtain ⟨g, rfl⟩ : ∃ g, gk = g + 1 := ⟨gk - 1, by have := HI.out; omega⟩
            go_wp2_with fail
            go_roundg g
            case measure => omega
            case rel => exact ⟨i + 1, by go_num, by have := HI.out; omega, HP9.out, HF9.out, HZ9.out, HB9.out, HK9.out⟩
        · have h9b : (T != 9) = true := by simpa using h9
          have HM : Hid ((spS 200 7 false p ys i).may T X = false) := by show _ = _; unfold Bk.may; rw [HO.out, if_pos rfl]; simp [h9]
          clear h9
          have HR : Hid ((spS 200 7 false p ys i).done T 0 X (List.replicate 8 0) = false ∧ (spS 200 7 false p ys i).rule T 0 X (List.replicate 8 0) = 6 ∧ (spS 200 7 false p ys i).add T 0 X (List.replicate 8 0) = spS 200 7 false p ys i) := Lib.hid ⟨(add_not (takes_may HM.out)).2, by unfold Bk.rule; rw [if_pos HM.out], (add_not (takes_may HM.out)).1⟩
          go_wp2_with fail
          refine (open_any _ _ _ wr HP.out).mono ?_
          rintro e w' ⟨rfl, rfl⟩
          rw [HO.out]
          go_wp2_with fail
          refine (add_any _ _ _ T 0 X _ 8 8 (List.replicate 8 0) wr HP.out HSOK.out HZ.out (by omega)).mono ?_
          rintro e w8 ⟨rfl, hp8, hk8⟩
          rw [HR.out.1, HR.out.2.1]
          rw [HR.out.2.2] at hp8
          have HP8 := Lib.hid hp8
          have HF8 := Lib.hid (hk8.blk HF.out (by have := HS6.out; have := HS5.out; omega))
          have HZ8 := Lib.hid (HZ.out.keep hk8 (fun b hb e => by have := HS5.out; simp at hb; omega))
          have HB8 : Hid (Below w4.heap.size w4 w8) := Lib.hid (Keeps.below HB.out hk8 HB.out.size (fun k h => by omega))
          have HK8 : Hid (Below w.heap.size w w8) := Lib.hid (Keeps.below HKW.out hk8 HKW.out.size (fun k h => by have := HSB.out; omega))
          clear hp8 hk8 c0 c1 c2 c3
          go_wp2_with fail
          refine (open_any _ _ _ w8 HP8.out).mono ?_
          rintro e w' ⟨rfl, rfl⟩
          rw [HO.out]
          obtain ⟨bb, oo, hab, _, ⟨g0, g1, g2, g3⟩, hy⟩ := (HQ4.out.keep (Below.keeps HB8.out) (fun b h => .inr h)).get i hil
          subst hab
          have hsp := HSP.out i hil
          have hfn : l[i].n ≤ 1000000 := by
            have h1 := hy.1
            have h2 := hsp.2.2.2
            have h3 : (spX p ys i).length ≤ p := by unfold spX; rw [List.length_take]; omega
            rw [← h2] at h3
            omega
          have hst := sp_takes (most := 200) hsp (by decide) HOP.out (by have := HYL.out; simp; omega)
          have HST := Lib.hid hst
          have HY := Lib.hid hy
          clear hsp hst hy
          generalize l[i] = f at *
          go_wp2_with fail
          refine (add_any _ _ _ f.t f.fl f.st f.a f.n f.cap f.xs w8 HP8.out HSOK.out HY.out hfn).mono ?_
          rintro e w9 ⟨rfl, hp9, hk9⟩
          rw [HST.out.1]
          rw [HST.out.2.1] at hp9
          have HP9 := Lib.hid hp9
          have HF9 := Lib.hid (hk9.blk HF8.out (by have := HS6.out; have := HS5.out; omega))
          have HZ9 := Lib.hid (HZ8.out.keep hk9 (fun b hb e => by have := HS5.out; simp at hb; omega))
          have HB9 : Hid (Below w4.heap.size w4 w9) := Lib.hid (Keeps.below HB8.out hk9 HB8.out.size (fun k h => by omega))
          have HK9 : Hid (Below w.heap.size w w9) := Lib.hid (Keeps.below HK8.out hk9 HK8.out.size (fun k h => by have := HSB.out; omega))
          clear hp9 hk9 g0 g1 g2 g3
          obtain ⟨g, rfl⟩ : ∃ g, gk = g + 1 := ⟨gk - 1, by have := HI.out; omega⟩
          go_wp2_with fail
          go_roundg g
          case measure => omega
          case rel => exact ⟨i + 1, by go_num, by have := HI.out; omega, HP9.out, HF9.out, HZ9.out, HB9.out, HK9.out⟩
    · obtain rfl : i = l.length := by have := HI.out; omega
      have hfull : ys.take (l.length * p) = ys := List.take_of_length_le HM4.out
      have hlast : spL p ys.length (l.length - 1) = true := by
        unfold spL
        rw [show l.length - 1 + 1 = l.length by have := HL4.out; omega]
        simpa using HM4.out
      have hse : spS 200 7 false p ys l.length = ⟨200, 7, false, ys, false, true⟩ := by
        unfold spS
        rw [if_neg (by have := HL4.out; omega), hfull, hlast]
        rfl
      rw [hse] at HP
      have HOKE : Hid (Bk.Ok ⟨200, 7, false, ys, false, true⟩) := Lib.hid ⟨by simp, by simp, by have := HYL.out; simp; omega, by simp, by simp, by simp⟩
      clear hfull hlast hse
      have HXS := Lib.hid (HKEEP.out wr HKW.out)
      go_wp2_with fail
      refine (take_any _ _ _ wr HP.out HOKE.out).mono ?_
      rintro e w8 ⟨ht8, hp8, hk8⟩
      unfold TkP at ht8
      rw [if_pos rfl] at ht8
      obtain ⟨a8, n8, c8, rfl, hy8, _⟩ := ht8
      have HK8 : Hid (Below w.heap.size w w8) := Lib.hid (Keeps.below HKW.out hk8 HKW.out.size (fun k h => by have := HSB.out; omega))
      have HY8 : Hid (By w8 a8 n8 c8 ys) := Lib.hid hy8
      have HP8 := Lib.hid hp8
      have HXS8 := Lib.hid (HKEEP.out w8 HK8.out)
      clear hy8 hp8 hk8
      go_wp2_with fail
      refine (open_any _ _ _ w8 HP8.out).mono ?_
      rintro e w' ⟨rfl, rfl⟩
      rw [show (Bk.took ⟨200, 7, false, ys, false, true⟩).opn = false from rfl]
      go_wp2_with fail
      refine By.upon HY8.out ?_
      have HCMP : Hid (ys = (({ data := #[120] } : ByteArray) ++ { data := xs.toArray }).toList) := Lib.hid (by rw [← HYS.out, ByteArray.toList_eq]; simp)
      have hxl2 : xs.length ≤ 100 := by have := HXL.out; omega
      go_wp2_with fail
      refine By.upon HXS8.out ?_
      go_wp2_with fail
      refine (take_any _ _ _ w8 HP8.out (Bk.took_ok HOKE.out)).mono ?_
      rintro e w9 ⟨ht9, _, hk9⟩
      unfold TkP at ht9
      rw [if_neg (by simp [Bk.took])] at ht9
      subst ht9
      have HK9 : Hid (Below w.heap.size w w9) := Lib.hid (Keeps.below HK8.out hk9 HK8.out.size (fun k h => by have := HSB.out; omega))
      clear hk9
      go_wp2_with fail
      go_returns
      exact ⟨rfl, HK9.out⟩

end Go.Proofs.Ytcfljnlfikkhaaa
