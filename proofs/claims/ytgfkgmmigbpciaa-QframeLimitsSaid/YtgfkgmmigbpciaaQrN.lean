/- The walk of QframeLimits. -/
import Derived.Test.YtgfkgmmigbpciaaQrM
import Derived.Test.YtgfkgmmigbpciaaHeld
namespace Go.Proofs.Ytgfkgmmigbpciaa
open Go.RowKit Go.Deep

theorem enc_one_none {f : Qf} (h : encQ f.c = none) : encsO [] [f] = none := by unfold encsO; simp [encsQ, h]
theorem enc_one_some {f : Qf} {ys : List UInt8} (h : encQ f.c = some ys) : encsO [] [f] = some ys := by unfold encsO; simp [encsQ, h]
theorem lim_end (n : Nat) (D : Int) (hn : n ≤ 50) (h0 : -2 ≤ D) (h2 : D ≤ 2) : endB (4611686018427387903 - (n : Int) + D) n = decide (D ≤ 0) := by
  unfold endB
  by_cases h : D ≤ 0
  · rw [decide_eq_true h, Bool.and_eq_true, decide_eq_true_eq, decide_eq_true_eq]; omega
  · rw [decide_eq_false h, Bool.and_eq_false_iff, decide_eq_false_iff_not, decide_eq_false_iff_not]; omega
theorem lim_0 (xs : List UInt8) (n : Nat) (hx : n = xs.length) (D : Int) (hn : n ≤ 50) (h0 : -2 ≤ D) (h2 : D ≤ 2) : (encQ ⟨8, 0, 4611686018427387903 - (n : Int) + D, false, 0, 0, 0, [], xs, false, false, 0⟩).isSome = decide (D ≤ 0) := by
  have he := lim_end n D hn h0 h2
  subst hx
  unfold encQ
  rw [if_neg (by show ¬ (8 : Int) = 0; omega), plan_8 rfl]
  dsimp only
  rw [he]
  by_cases h : D ≤ 0
  · rw [decide_eq_true h, if_pos rfl, if_neg (by omega)]
    dsimp only
    rw [if_pos (by unfold strT b2i; simp [varsOK]; omega)]
    rfl
  · rw [decide_eq_false h, if_neg (by simp)]
    rfl
theorem lim_3 (xs : List UInt8) (n : Nat) (hx : n = xs.length) (D : Int) (hn : n ≤ 50) (h0 : -2 ≤ D) (h2 : D ≤ 2) : (encQ ⟨6, 0, 4611686018427387903 - (n : Int) + D, false, 0, 0, 0, [], xs, false, false, 0⟩).isSome = decide (D ≤ 0) := by
  have he := lim_end n D hn h0 h2
  subst hx
  unfold encQ
  rw [if_neg (by show ¬ (6 : Int) = 0; omega), plan_6 rfl]
  dsimp only
  rw [he]
  by_cases h : D ≤ 0
  · rw [decide_eq_true h, if_pos rfl]
    dsimp only
    rw [if_pos (by simp [varsOK]; omega)]
    rfl
  · rw [decide_eq_false h, if_neg (by simp)]
    rfl
theorem lim_1 (D : Int) (h0 : -2 ≤ D) (h2 : D ≤ 2) : (encQ ⟨18, 0, 0, false, 1152921504606846976 + D, 0, 0, [], [], false, false, 0⟩).isSome = decide (D ≤ 0) := by
  unfold encQ
  rw [if_neg (by show ¬ (18 : Int) = 0; omega), plan_18 rfl]
  dsimp only
  by_cases h : D ≤ 0
  · rw [decide_eq_true h, if_pos (by omega)]
    dsimp only
    rw [if_pos (by simp [varsOK, b2i]; omega)]
    rfl
  · rw [decide_eq_false h, if_neg (by omega)]
    rfl
theorem lim_2 (K : Nat) (D : Int) (hK : 36 + D = (K : Int)) (h0 : -2 ≤ D) (h2 : D ≤ 2) : (encQ ⟨24, 5, 0, false, 0, 0, 0, [], (List.replicate K 0), false, false, 0⟩).isSome = decide (D ≤ 0) := by
  unfold encQ
  rw [if_neg (by show ¬ (24 : Int) = 0; omega), plan_24 rfl]
  dsimp only
  rw [List.length_replicate]
  by_cases h : D ≤ 0
  · rw [decide_eq_true h, if_pos (by omega)]
    dsimp only
    rw [if_pos (by simp [varsOK])]
    rfl
  · rw [decide_eq_false h, if_neg (by omega)]
    rfl
theorem lim_4 (D : Int) (h0 : -2 ≤ D) (h2 : D ≤ 2) : (encQ ⟨25, 4611686018427387903 + D, 0, false, 0, 0, 0, [], [], false, false, 0⟩).isSome = decide (D ≤ 0) := by
  unfold encQ
  rw [if_neg (by show ¬ (25 : Int) = 0; omega), plan_25 rfl]
  dsimp only
  by_cases h : D ≤ 0
  · rw [decide_eq_true h, if_pos (by simp [varsOK]; omega)]
    rfl
  · rw [decide_eq_false h, if_neg (by simp [varsOK]; omega)]
    rfl
theorem lim_wf (t id off mx : Int) (xs : List UInt8) (ht : inU t) (hid : inU id) (hoff : inU off) (hmx : inU mx) : Qc.wf ⟨t, id, off, false, mx, 0, 0, [], xs, false, false, 0⟩ :=
  ⟨ht, hid, hoff, hmx, inU_0, inU_0, fun r hr => (by cases hr), (by show (-9223372036854775808 : Int) ≤ 0; omega), (by show (0 : Int) ≤ 9223372036854775807; omega)⟩
theorem wpList_make8u (w : World) {ops : Array Oper} {rest : List Oper} {o : Oper} {ac : Act} {Q : Exit → Act → World → Prop} (hg : o.guard = none) (l c : Operand) (hop : o.op = Op.makeSlice 22 l c) (n : Nat)
    (hl : ac.eval l = .int .u64 (n : Int)) (hc : ac.eval c = .int .u64 (n : Int)) (hn : n ≤ 1000000000)
    (hK : ∀ w', Bo w.heap.size w' (some ⟨w.heap.size, 0, none⟩) n n (List.replicate n 0) → Below w.heap.size w w' → wpList Try.prog ops Q rest (ac.put o.dst (.slice (some ⟨w.heap.size, 0, none⟩) n n)) w') : wpList Try.prog ops Q (o :: rest) ac w := by
  obtain ⟨i, hi, hz, hs1, hs2⟩ := info_parts info8
  refine wpList_make_full w hg l c 22 hop w.heap.size 5 i _ 1 Try.underlying22 hi hz hs1 .u64 .u64 n n n hl hc rfl rfl (by rw [hs2]; omega) (by unfold maxLen; omega) (Nat.le_refl _) ?_
  intro w' h1 h2
  refine hK w' ⟨by simp, ?_⟩ (below_of_grown h2)
  rw [made_bytes] at h1
  exact h1

set_option maxRecDepth 100000 in
set_option maxHeartbeats 12800000 in
theorem walkQframeLimits (w : World) (what : Int) (w0 : (Lit.int .u8 what).wf = true) (nn : Int) (w1 : (Lit.int .u8 nn).wf = true) (v2 : Value) (h2 : Arg Try.prog w 22 v2) :
    Calls Try.prog 5 #[.int .u8 what, .int .u8 nn, v2] w fun e w' => e = .returned (.bool true) ∧ Below w.heap.size w w' := by
  obtain ⟨p0, p1⟩ := wf_u8_iff w0
  obtain ⟨x0, x1⟩ := wf_u8_iff w1
  obtain ⟨a, n, cap, xs, rfl, hb, hbb⟩ := h2.bytes
  have HBB := Lib.hid hbb
  have HN := Lib.hid hb.1
  clear hb hbb h2 w0 w1
  go_enter Try.func5, Try.ntmps5
  go_wp2_with fail
  refine (known_any w).mono ?_
  rintro e w1 ⟨rfl, hk1⟩
  have HK1 := Lib.hid hk1
  clear hk1
  by_cases hn : n ≤ 50
  rotate_left
  · have hd : decide ((50 : Int) < (n : Int)) = true := by simp; omega
    have hd2 : decide (50 < n) = true := by simp; omega
    clear hn
    go_wp2_with fail
    go_returns
    exact ⟨rfl, HK1.out⟩
  have hd : decide ((50 : Int) < (n : Int)) = false := by simp; omega
  have hd2 : decide (50 < n) = false := by simp; omega
  obtain ⟨D, hD⟩ : ∃ D, nn % 5 - 2 = D := ⟨_, rfl⟩
  have HDB : Hid (-2 ≤ D ∧ D ≤ 2) := Lib.hid (by omega)
  obtain ⟨U, hU⟩ : ∃ U, IntKind.u64.wrap D = U := ⟨_, rfl⟩
  have hU2 : U = if D < 0 then D + 18446744073709551616 else D := by
    have := HDB.out
    rw [← hU, IntKind.wrap_u64]
    split <;> omega
  have hWU : wrap64 U = D := by
    have := HDB.out
    rw [hU2]
    unfold wrap64
    split <;> omega
  have hW0 : IntKind.u64.wrap (4611686018427387903 - (n : Int) + U) = 4611686018427387903 - (n : Int) + D := by
    have := HDB.out
    rw [hU2]
    split <;> (rw [IntKind.wrap_u64]; omega)
  have hW1 : IntKind.u64.wrap (1152921504606846976 + U) = 1152921504606846976 + D := by
    have := HDB.out
    rw [hU2]
    split <;> (rw [IntKind.wrap_u64]; omega)
  have hW2 : IntKind.u64.wrap (36 + U) = 36 + D := by
    have := HDB.out
    rw [hU2]
    split <;> (rw [IntKind.wrap_u64]; omega)
  have hW4 : IntKind.u64.wrap (4611686018427387903 + U) = 4611686018427387903 + D := by
    have := HDB.out
    rw [hU2]
    split <;> (rw [IntKind.wrap_u64]; omega)
  clear hU2
  go_upto_region 8 with fail
  refine wp_named ?_
  intro w2 hw2
  have HK2 : Hid (Below w.heap.size w w2) := Lib.hid (by rw [← hw2]; exact HK1.out.alloc HK1.out.size _)
  have HF2 : Hid (Blk w2 w1.heap.size #[.int .u64 8, .int .u64 0, .int .u64 (4611686018427387903 - (n : Int) + D), .bool false, .int .u64 0, .int .u64 0, .int .u64 0, .slice none 0 0, .slice a n cap, .bool false, .bool false, .int .i64 0] 32) := Lib.hid (by rw [← hw2]; exact Blk.new _ _ _)
  have HSZ : Hid (w.heap.size ≤ w1.heap.size) := Lib.hid HK1.out.size
  clear hw2 hd hd2
  obtain ⟨fb, hfb⟩ : ∃ fb, w1.heap.size = fb := ⟨_, rfl⟩
  rw [hfb] at HF2 HSZ ⊢
  clear hfb
  obtain ⟨B, hB⟩ : ∃ B, decide (D ≤ 0) = B := ⟨_, rfl⟩
  rw [hB]
  have HB := Lib.hid hB
  clear hB hD hU
  by_cases hc1 : what % 5 = 1
  · obtain ⟨t0, t1, t2, t3, t4, t5, t6, t7, t8, t9, t10, t11⟩ := q12_cells HF2.out
    obtain ⟨z0, z1, z2, z3, z4, z5, z6, z7, z8, z9, z10, z11⟩ := q12_free HF2.out
    go_upto_region 17 with fail
    refine wp_named ?_
    intro w3 hw3
    have HF3 : Hid (Blk w3 fb #[.int .u64 18, .int .u64 0, .int .u64 0, .bool false, .int .u64 (1152921504606846976 + D), .int .u64 0, .int .u64 0, .slice none 0 0, .slice none 0 0, .bool false, .bool false, .int .i64 0] 32) := Lib.hid (by rw [← hw3]; exact qs_blk HF2.out _ _ _ _ _ _ _ _ _ _ _ _)
    have HX3 : Hid (Below w.heap.size w w3) := Lib.hid (by rw [← hw3]; exact Keeps.below HK2.out (qs_keep (S := fun k => k = fb) (Keeps.refl _ _) (fun _ => rfl) _ _ _ _ _ _ _ _ _ _ _ _) HK2.out.size (fun k h => by have := HSZ.out; omega))
    clear hw3 t0 z0 t1 z1 t2 z2 t3 z3 t4 z4 t5 z5 t6 z6 t7 z7 t8 z8 t9 z9 t10 z10 t11 z11
    obtain ⟨x0, x1, x2, x3, x4, x5, x6, x7, x8, x9, x10, x11⟩ := q12_cells HF3.out
    go_wp2_with fail
    clear x0 x1 x2 x3 x4 x5 x6 x7 x8 x9 x10 x11
    have HWF : Hid (Qc.wf (Qf.c ⟨⟨18, 0, 0, false, 1152921504606846976 + D, 0, 0, [], [], false, false, 0⟩, none, 0, 0, none, 0, 0⟩)) := Lib.hid (lim_wf _ _ _ _ _ ⟨by omega, by omega⟩ inU_0 inU_0 ⟨by have := HDB.out; omega, by have := HDB.out; omega⟩)
    have HSM : Hid (Qc.Small (Qf.c ⟨⟨18, 0, 0, false, 1152921504606846976 + D, 0, 0, [], [], false, false, 0⟩, none, 0, 0, none, 0, 0⟩)) := Lib.hid ⟨by show (0 : Nat) ≤ 1000; omega, by show (0 : Nat) ≤ 100; omega, by show (0 : Int) ≤ 10000; omega⟩
    have HLIM : Hid ((encQ (Qf.c ⟨⟨18, 0, 0, false, 1152921504606846976 + D, 0, 0, [], [], false, false, 0⟩, none, 0, 0, none, 0, 0⟩)).isSome = B) := Lib.hid (by rw [← HB.out]; exact lim_1 D HDB.out.1 HDB.out.2)
    have HQI : Hid (∀ w', Below w.heap.size w w' → Qin w' ⟨⟨18, 0, 0, false, 1152921504606846976 + D, 0, 0, [], [], false, false, 0⟩, none, 0, 0, none, 0, 0⟩) := Lib.hid (fun w' HB' => ⟨By.nil _, Rv.nil _, HWF.out⟩)
    refine calls_named ?_
    intro w4 hw4
    have HK4 : Hid (Below w3.heap.size w3 w4) := Lib.hid (by rw [← hw4]; exact (Below.refl _ _).alloc (Nat.le_refl _) _)
    have HR4 : Hid (Blk w4 w3.heap.size #[.int .u64 18, .int .u64 0, .int .u64 0, .bool false, .int .u64 (1152921504606846976 + D), .int .u64 0, .int .u64 0, .slice none 0 0, .slice none 0 0, .bool false, .bool false, .int .i64 0] 32) := Lib.hid (by rw [← hw4]; exact Blk.new _ _ _)
    clear hw4
    have HX4 : Hid (Below w.heap.size w w4) := Lib.hid (HX3.out.trans (HK4.out.mono HX3.out.size))
    have hlt4 : w3.heap.size < w4.heap.size := HR4.out.lt
    refine (qwrite_any none 0 0 [] (some ⟨w3.heap.size, 0, none⟩) 1 1 [⟨⟨18, 0, 0, false, 1152921504606846976 + D, 0, 0, [], [], false, false, 0⟩, none, 0, 0, none, 0, 0⟩] w4 (By.nil _) (fun w' h => by
      refine Qv.blk ((Below.keeps h).blk HR4.out (by omega)) [⟨⟨18, 0, 0, false, 1152921504606846976 + D, 0, 0, [], [], false, false, 0⟩, none, 0, 0, none, 0, 0⟩] rfl (by simp) (fun g hg => ?_)
      simp only [List.mem_cons, List.not_mem_nil, or_false] at hg
      subst hg
      exact HQI.out w' (HX4.out.trans (h.mono HX4.out.size))) (fun g hg => by
      simp only [List.mem_cons, List.not_mem_nil, or_false] at hg
      subst hg
      exact HSM.out) (by omega) (by simp)).mono ?_
    rintro e w5 ⟨hk5, hr5⟩
    have HX5 : Hid (Below w.heap.size w w5) := Lib.hid (HX4.out.trans (hk5.mono HX4.out.size))
    have HF5 : Hid (Blk w5 fb #[.int .u64 18, .int .u64 0, .int .u64 0, .bool false, .int .u64 (1152921504606846976 + D), .int .u64 0, .int .u64 0, .slice none 0 0, .slice none 0 0, .bool false, .bool false, .int .i64 0] 32) := Lib.hid ((Below.keeps hk5).blk ((Below.keeps HK4.out).blk HF3.out (by have := HF3.out.lt; omega)) (by have := HF3.out.lt; omega))
    obtain ⟨x0, x1, x2, x3, x4, x5, x6, x7, x8, x9, x10, x11⟩ := q12_cells HF5.out
    clear hk5 hlt4
    cases hen : encQ (Qf.c ⟨⟨18, 0, 0, false, 1152921504606846976 + D, 0, 0, [], [], false, false, 0⟩, none, 0, 0, none, 0, 0⟩) with
    | none =>
      have HBF : Hid (B = false) := Lib.hid (by rw [← HLIM.out, hen]; rfl)
      have HEN := Lib.hid (enc_one_none (f := ⟨⟨18, 0, 0, false, 1152921504606846976 + D, 0, 0, [], [], false, false, 0⟩, none, 0, 0, none, 0, 0⟩) hen)
      rw [HEN.out] at hr5
      have hr' : e = .returned (.tuple #[.slice none 0 0, .int .i64 30]) := hr5
      subst hr'
      clear hr5 hen
      obtain rfl := HBF.out
      go_wp2_with fail
      clear x0 x1 x2 x3 x4 x5 x6 x7 x8 x9 x10 x11
      refine calls_named ?_
      intro w6 hw6
      have HK6 : Hid (Below w5.heap.size w5 w6) := Lib.hid (by rw [← hw6]; exact (Below.refl _ _).alloc (Nat.le_refl _) _)
      have HR6 : Hid (Blk w6 w5.heap.size #[.int .u64 18, .int .u64 0, .int .u64 0, .bool false, .int .u64 (1152921504606846976 + D), .int .u64 0, .int .u64 0, .slice none 0 0, .slice none 0 0, .bool false, .bool false, .int .i64 0] 32) := Lib.hid (by rw [← hw6]; exact Blk.new _ _ _)
      clear hw6
      have HX6 : Hid (Below w.heap.size w w6) := Lib.hid (HX5.out.trans (HK6.out.mono HX5.out.size))
      have hlt6 : w5.heap.size < w6.heap.size := HR6.out.lt
      refine (rframes_any w6.heap.size none 0 0 [] (some ⟨w5.heap.size, 0, none⟩) 1 1 [⟨⟨18, 0, 0, false, 1152921504606846976 + D, 0, 0, [], [], false, false, 0⟩, none, 0, 0, none, 0, 0⟩] w6 (Sb.nil _ _) (fun w' h => by
        refine Qv.blk ((Below.keeps h).blk HR6.out (by omega)) [⟨⟨18, 0, 0, false, 1152921504606846976 + D, 0, 0, [], [], false, false, 0⟩, none, 0, 0, none, 0, 0⟩] rfl (by simp) (fun g hg => ?_)
        simp only [List.mem_cons, List.not_mem_nil, or_false] at hg
        subst hg
        exact HQI.out w' (HX6.out.trans (h.mono HX6.out.size))) (fun g hg => by
        simp only [List.mem_cons, List.not_mem_nil, or_false] at hg
        subst hg
        exact HSM.out) (by omega) (by simp) (Nat.le_refl _)).mono ?_
      intro e w7 h7
      have HX7 : Hid (Below w.heap.size w w7) := Lib.hid (HX6.out.trans (h7.below.mono HX6.out.size))
      obtain ⟨hk7, hr7⟩ := h7
      rw [HEN.out] at hr7
      have hr' : e = .returned (.tuple #[.slice none 0 0, .int .i64 30]) := hr7
      subst hr'
      clear hk7 hr7 hlt6
      go_wp2_with fail
      go_returns
      exact ⟨rfl, HX7.out⟩
    | some zs =>
      have HBF : Hid (B = true) := Lib.hid (by rw [← HLIM.out, hen]; rfl)
      have HEN := Lib.hid (enc_one_some (f := ⟨⟨18, 0, 0, false, 1152921504606846976 + D, 0, 0, [], [], false, false, 0⟩, none, 0, 0, none, 0, 0⟩) hen)
      rw [HEN.out] at hr5
      obtain ⟨a5, n5, c5, rfl, ho5⟩ := hr5
      clear ho5 hen
      obtain rfl := HBF.out
      go_wp2_with fail
      clear x0 x1 x2 x3 x4 x5 x6 x7 x8 x9 x10 x11
      refine calls_named ?_
      intro w6 hw6
      have HK6 : Hid (Below w5.heap.size w5 w6) := Lib.hid (by rw [← hw6]; exact (Below.refl _ _).alloc (Nat.le_refl _) _)
      have HR6 : Hid (Blk w6 w5.heap.size #[.int .u64 18, .int .u64 0, .int .u64 0, .bool false, .int .u64 (1152921504606846976 + D), .int .u64 0, .int .u64 0, .slice none 0 0, .slice none 0 0, .bool false, .bool false, .int .i64 0] 32) := Lib.hid (by rw [← hw6]; exact Blk.new _ _ _)
      clear hw6
      have HX6 : Hid (Below w.heap.size w w6) := Lib.hid (HX5.out.trans (HK6.out.mono HX5.out.size))
      have hlt6 : w5.heap.size < w6.heap.size := HR6.out.lt
      refine (rframes_any w6.heap.size none 0 0 [] (some ⟨w5.heap.size, 0, none⟩) 1 1 [⟨⟨18, 0, 0, false, 1152921504606846976 + D, 0, 0, [], [], false, false, 0⟩, none, 0, 0, none, 0, 0⟩] w6 (Sb.nil _ _) (fun w' h => by
        refine Qv.blk ((Below.keeps h).blk HR6.out (by omega)) [⟨⟨18, 0, 0, false, 1152921504606846976 + D, 0, 0, [], [], false, false, 0⟩, none, 0, 0, none, 0, 0⟩] rfl (by simp) (fun g hg => ?_)
        simp only [List.mem_cons, List.not_mem_nil, or_false] at hg
        subst hg
        exact HQI.out w' (HX6.out.trans (h.mono HX6.out.size))) (fun g hg => by
        simp only [List.mem_cons, List.not_mem_nil, or_false] at hg
        subst hg
        exact HSM.out) (by omega) (by simp) (Nat.le_refl _)).mono ?_
      intro e w7 h7
      have HX7 : Hid (Below w.heap.size w w7) := Lib.hid (HX6.out.trans (h7.below.mono HX6.out.size))
      obtain ⟨hk7, hr7⟩ := h7
      rw [HEN.out] at hr7
      obtain ⟨a7, n7, c7, rfl, hs7, _⟩ := hr7
      clear hk7 hs7 hlt6
      go_wp2_with fail
      go_returns
      exact ⟨rfl, HX7.out⟩


  by_cases hc2 : what % 5 = 2
  · obtain ⟨K, hK⟩ : ∃ K : Nat, 36 + D = (K : Int) := ⟨(36 + D).toNat, by have := HDB.out; omega⟩
    have HKK := Lib.hid hK
    go_wp2_with (refine wpList_make8u _ rfl _ _ rfl K rfl rfl (by have := HKK.out; have := HDB.out; omega) ?_; intro wg hog hkg; refine halt ?_)
    have HK3w : Hid (Below w.heap.size w wg) := Lib.hid (HK2.out.trans (hkg.mono HK2.out.size))
    have HGO := Lib.hid hog
    have HFG : Hid (fb < w2.heap.size) := Lib.hid HF2.out.lt
    have HF3 : Hid (Blk wg fb #[.int .u64 8, .int .u64 0, .int .u64 (4611686018427387903 - (n : Int) + D), .bool false, .int .u64 0, .int .u64 0, .int .u64 0, .slice none 0 0, .slice a n cap, .bool false, .bool false, .int .i64 0] 32) := Lib.hid ((Below.keeps hkg).blk HF2.out (by have := HF2.out.lt; omega))
    clear hog hkg
    obtain ⟨g, hg⟩ : ∃ g, w2.heap.size = g := ⟨_, rfl⟩
    rw [hg] at HGO HFG ⊢
    clear hg hK
    obtain ⟨t0, t1, t2, t3, t4, t5, t6, t7, t8, t9, t10, t11⟩ := q12_cells HF3.out
    obtain ⟨z0, z1, z2, z3, z4, z5, z6, z7, z8, z9, z10, z11⟩ := q12_free HF3.out
    refine Halted.go ?_
    go_upto_region 17 with fail
    refine wp_named ?_
    intro w3 hw3
    have HF3 : Hid (Blk w3 fb #[.int .u64 24, .int .u64 5, .int .u64 0, .bool false, .int .u64 0, .int .u64 0, .int .u64 0, .slice none 0 0, .slice (some ⟨g, 0, none⟩) K K, .bool false, .bool false, .int .i64 0] 32) := Lib.hid (by rw [← hw3]; exact qs_blk HF3.out _ _ _ _ _ _ _ _ _ _ _ _)
    have HKS : Hid (Keeps (fun k => k = fb) wg w3) := Lib.hid (by rw [← hw3]; exact qs_keep (S := fun k => k = fb) (Keeps.refl _ _) (fun _ => rfl) _ _ _ _ _ _ _ _ _ _ _ _)
    have HK3g : Hid (Below w.heap.size w w3) := Lib.hid (Keeps.below HK3w.out HKS.out HK3w.out.size (fun k h => by have := HSZ.out; omega))
    have HX3 : Hid (Below w3.heap.size w3 w3) := Lib.hid (Below.refl _ _)
    have HGK := Lib.hid (HGO.out.keep HKS.out (fun b hb h => by have h1 := (HGO.out.ge b hb).1; have h2 := HFG.out; omega))
    have HG : Hid (∀ w', Below w3.heap.size w3 w' → By w' (some ⟨g, 0, none⟩) K K (List.replicate K 0)) := Lib.hid (fun w' h => HGK.out.by.below h (fun b hb => (HGK.out.ge b hb).2))
    clear hw3 t0 z0 t1 z1 t2 z2 t3 z3 t4 z4 t5 z5 t6 z6 t7 z7 t8 z8 t9 z9 t10 z10 t11 z11
    obtain ⟨x0, x1, x2, x3, x4, x5, x6, x7, x8, x9, x10, x11⟩ := q12_cells HF3.out
    go_wp2_with fail
    clear x0 x1 x2 x3 x4 x5 x6 x7 x8 x9 x10 x11
    have HWF : Hid (Qc.wf (Qf.c ⟨⟨24, 5, 0, false, 0, 0, 0, [], (List.replicate K 0), false, false, 0⟩, none, 0, 0, some ⟨g, 0, none⟩, K, K⟩)) := Lib.hid (lim_wf _ _ _ _ _ ⟨by omega, by omega⟩ ⟨by omega, by omega⟩ inU_0 inU_0)
    have HSM : Hid (Qc.Small (Qf.c ⟨⟨24, 5, 0, false, 0, 0, 0, [], (List.replicate K 0), false, false, 0⟩, none, 0, 0, some ⟨g, 0, none⟩, K, K⟩)) := Lib.hid ⟨by show (List.replicate K (0 : UInt8)).length ≤ 1000; rw [List.length_replicate]; have := HKK.out; have := HDB.out; omega, by show (0 : Nat) ≤ 100; omega, by show (0 : Int) ≤ 10000; omega⟩
    have HLIM : Hid ((encQ (Qf.c ⟨⟨24, 5, 0, false, 0, 0, 0, [], (List.replicate K 0), false, false, 0⟩, none, 0, 0, some ⟨g, 0, none⟩, K, K⟩)).isSome = B) := Lib.hid (by rw [← HB.out]; exact lim_2 K D HKK.out HDB.out.1 HDB.out.2)
    have HQI : Hid (∀ w', Below w3.heap.size w3 w' → Qin w' ⟨⟨24, 5, 0, false, 0, 0, 0, [], (List.replicate K 0), false, false, 0⟩, none, 0, 0, some ⟨g, 0, none⟩, K, K⟩) := Lib.hid (fun w' HB' => ⟨HG.out w' HB', Rv.nil _, HWF.out⟩)
    refine calls_named ?_
    intro w4 hw4
    have HK4 : Hid (Below w3.heap.size w3 w4) := Lib.hid (by rw [← hw4]; exact (Below.refl _ _).alloc (Nat.le_refl _) _)
    have HR4 : Hid (Blk w4 w3.heap.size #[.int .u64 24, .int .u64 5, .int .u64 0, .bool false, .int .u64 0, .int .u64 0, .int .u64 0, .slice none 0 0, .slice (some ⟨g, 0, none⟩) K K, .bool false, .bool false, .int .i64 0] 32) := Lib.hid (by rw [← hw4]; exact Blk.new _ _ _)
    clear hw4
    have HX4 : Hid (Below w3.heap.size w3 w4) := Lib.hid (HX3.out.trans (HK4.out.mono HX3.out.size))
    have hlt4 : w3.heap.size < w4.heap.size := HR4.out.lt
    refine (qwrite_any none 0 0 [] (some ⟨w3.heap.size, 0, none⟩) 1 1 [⟨⟨24, 5, 0, false, 0, 0, 0, [], (List.replicate K 0), false, false, 0⟩, none, 0, 0, some ⟨g, 0, none⟩, K, K⟩] w4 (By.nil _) (fun w' h => by
      refine Qv.blk ((Below.keeps h).blk HR4.out (by omega)) [⟨⟨24, 5, 0, false, 0, 0, 0, [], (List.replicate K 0), false, false, 0⟩, none, 0, 0, some ⟨g, 0, none⟩, K, K⟩] rfl (by simp) (fun g hg => ?_)
      simp only [List.mem_cons, List.not_mem_nil, or_false] at hg
      subst hg
      exact HQI.out w' (HX4.out.trans (h.mono HX4.out.size))) (fun g hg => by
      simp only [List.mem_cons, List.not_mem_nil, or_false] at hg
      subst hg
      exact HSM.out) (by omega) (by simp)).mono ?_
    rintro e w5 ⟨hk5, hr5⟩
    have HX5 : Hid (Below w3.heap.size w3 w5) := Lib.hid (HX4.out.trans (hk5.mono HX4.out.size))
    have HF5 : Hid (Blk w5 fb #[.int .u64 24, .int .u64 5, .int .u64 0, .bool false, .int .u64 0, .int .u64 0, .int .u64 0, .slice none 0 0, .slice (some ⟨g, 0, none⟩) K K, .bool false, .bool false, .int .i64 0] 32) := Lib.hid ((Below.keeps hk5).blk ((Below.keeps HK4.out).blk HF3.out (by have := HF3.out.lt; omega)) (by have := HF3.out.lt; omega))
    obtain ⟨x0, x1, x2, x3, x4, x5, x6, x7, x8, x9, x10, x11⟩ := q12_cells HF5.out
    clear hk5 hlt4
    cases hen : encQ (Qf.c ⟨⟨24, 5, 0, false, 0, 0, 0, [], (List.replicate K 0), false, false, 0⟩, none, 0, 0, some ⟨g, 0, none⟩, K, K⟩) with
    | none =>
      have HBF : Hid (B = false) := Lib.hid (by rw [← HLIM.out, hen]; rfl)
      have HEN := Lib.hid (enc_one_none (f := ⟨⟨24, 5, 0, false, 0, 0, 0, [], (List.replicate K 0), false, false, 0⟩, none, 0, 0, some ⟨g, 0, none⟩, K, K⟩) hen)
      rw [HEN.out] at hr5
      have hr' : e = .returned (.tuple #[.slice none 0 0, .int .i64 30]) := hr5
      subst hr'
      clear hr5 hen
      obtain rfl := HBF.out
      go_wp2_with fail
      clear x0 x1 x2 x3 x4 x5 x6 x7 x8 x9 x10 x11
      refine calls_named ?_
      intro w6 hw6
      have HK6 : Hid (Below w5.heap.size w5 w6) := Lib.hid (by rw [← hw6]; exact (Below.refl _ _).alloc (Nat.le_refl _) _)
      have HR6 : Hid (Blk w6 w5.heap.size #[.int .u64 24, .int .u64 5, .int .u64 0, .bool false, .int .u64 0, .int .u64 0, .int .u64 0, .slice none 0 0, .slice (some ⟨g, 0, none⟩) K K, .bool false, .bool false, .int .i64 0] 32) := Lib.hid (by rw [← hw6]; exact Blk.new _ _ _)
      clear hw6
      have HX6 : Hid (Below w3.heap.size w3 w6) := Lib.hid (HX5.out.trans (HK6.out.mono HX5.out.size))
      have hlt6 : w5.heap.size < w6.heap.size := HR6.out.lt
      refine (rframes_any w6.heap.size none 0 0 [] (some ⟨w5.heap.size, 0, none⟩) 1 1 [⟨⟨24, 5, 0, false, 0, 0, 0, [], (List.replicate K 0), false, false, 0⟩, none, 0, 0, some ⟨g, 0, none⟩, K, K⟩] w6 (Sb.nil _ _) (fun w' h => by
        refine Qv.blk ((Below.keeps h).blk HR6.out (by omega)) [⟨⟨24, 5, 0, false, 0, 0, 0, [], (List.replicate K 0), false, false, 0⟩, none, 0, 0, some ⟨g, 0, none⟩, K, K⟩] rfl (by simp) (fun g hg => ?_)
        simp only [List.mem_cons, List.not_mem_nil, or_false] at hg
        subst hg
        exact HQI.out w' (HX6.out.trans (h.mono HX6.out.size))) (fun g hg => by
        simp only [List.mem_cons, List.not_mem_nil, or_false] at hg
        subst hg
        exact HSM.out) (by omega) (by simp) (Nat.le_refl _)).mono ?_
      intro e w7 h7
      have HX7 : Hid (Below w3.heap.size w3 w7) := Lib.hid (HX6.out.trans (h7.below.mono HX6.out.size))
      obtain ⟨hk7, hr7⟩ := h7
      rw [HEN.out] at hr7
      have hr' : e = .returned (.tuple #[.slice none 0 0, .int .i64 30]) := hr7
      subst hr'
      clear hk7 hr7 hlt6
      go_wp2_with fail
      go_returns
      exact ⟨rfl, HK3g.out.trans (HX7.out.mono HK3g.out.size)⟩
    | some zs =>
      have HBF : Hid (B = true) := Lib.hid (by rw [← HLIM.out, hen]; rfl)
      have HEN := Lib.hid (enc_one_some (f := ⟨⟨24, 5, 0, false, 0, 0, 0, [], (List.replicate K 0), false, false, 0⟩, none, 0, 0, some ⟨g, 0, none⟩, K, K⟩) hen)
      rw [HEN.out] at hr5
      obtain ⟨a5, n5, c5, rfl, ho5⟩ := hr5
      clear ho5 hen
      obtain rfl := HBF.out
      go_wp2_with fail
      clear x0 x1 x2 x3 x4 x5 x6 x7 x8 x9 x10 x11
      refine calls_named ?_
      intro w6 hw6
      have HK6 : Hid (Below w5.heap.size w5 w6) := Lib.hid (by rw [← hw6]; exact (Below.refl _ _).alloc (Nat.le_refl _) _)
      have HR6 : Hid (Blk w6 w5.heap.size #[.int .u64 24, .int .u64 5, .int .u64 0, .bool false, .int .u64 0, .int .u64 0, .int .u64 0, .slice none 0 0, .slice (some ⟨g, 0, none⟩) K K, .bool false, .bool false, .int .i64 0] 32) := Lib.hid (by rw [← hw6]; exact Blk.new _ _ _)
      clear hw6
      have HX6 : Hid (Below w3.heap.size w3 w6) := Lib.hid (HX5.out.trans (HK6.out.mono HX5.out.size))
      have hlt6 : w5.heap.size < w6.heap.size := HR6.out.lt
      refine (rframes_any w6.heap.size none 0 0 [] (some ⟨w5.heap.size, 0, none⟩) 1 1 [⟨⟨24, 5, 0, false, 0, 0, 0, [], (List.replicate K 0), false, false, 0⟩, none, 0, 0, some ⟨g, 0, none⟩, K, K⟩] w6 (Sb.nil _ _) (fun w' h => by
        refine Qv.blk ((Below.keeps h).blk HR6.out (by omega)) [⟨⟨24, 5, 0, false, 0, 0, 0, [], (List.replicate K 0), false, false, 0⟩, none, 0, 0, some ⟨g, 0, none⟩, K, K⟩] rfl (by simp) (fun g hg => ?_)
        simp only [List.mem_cons, List.not_mem_nil, or_false] at hg
        subst hg
        exact HQI.out w' (HX6.out.trans (h.mono HX6.out.size))) (fun g hg => by
        simp only [List.mem_cons, List.not_mem_nil, or_false] at hg
        subst hg
        exact HSM.out) (by omega) (by simp) (Nat.le_refl _)).mono ?_
      intro e w7 h7
      have HX7 : Hid (Below w3.heap.size w3 w7) := Lib.hid (HX6.out.trans (h7.below.mono HX6.out.size))
      obtain ⟨hk7, hr7⟩ := h7
      rw [HEN.out] at hr7
      obtain ⟨a7, n7, c7, rfl, hs7, _⟩ := hr7
      clear hk7 hs7 hlt6
      go_wp2_with fail
      go_returns
      exact ⟨rfl, HK3g.out.trans (HX7.out.mono HK3g.out.size)⟩


  by_cases hc3 : what % 5 = 3
  · obtain ⟨t0, t1, t2, t3, t4, t5, t6, t7, t8, t9, t10, t11⟩ := q12_cells HF2.out
    obtain ⟨z0, z1, z2, z3, z4, z5, z6, z7, z8, z9, z10, z11⟩ := q12_free HF2.out
    go_upto_region 17 with fail
    refine wp_named ?_
    intro w3 hw3
    have HF3 : Hid (Blk w3 fb #[.int .u64 6, .int .u64 0, .int .u64 (4611686018427387903 - (n : Int) + D), .bool false, .int .u64 0, .int .u64 0, .int .u64 0, .slice none 0 0, .slice a n cap, .bool false, .bool false, .int .i64 0] 32) := Lib.hid (by rw [← hw3]; exact qs_blk HF2.out _ _ _ _ _ _ _ _ _ _ _ _)
    have HX3 : Hid (Below w.heap.size w w3) := Lib.hid (by rw [← hw3]; exact Keeps.below HK2.out (qs_keep (S := fun k => k = fb) (Keeps.refl _ _) (fun _ => rfl) _ _ _ _ _ _ _ _ _ _ _ _) HK2.out.size (fun k h => by have := HSZ.out; omega))
    clear hw3 t0 z0 t1 z1 t2 z2 t3 z3 t4 z4 t5 z5 t6 z6 t7 z7 t8 z8 t9 z9 t10 z10 t11 z11
    obtain ⟨x0, x1, x2, x3, x4, x5, x6, x7, x8, x9, x10, x11⟩ := q12_cells HF3.out
    go_wp2_with fail
    clear x0 x1 x2 x3 x4 x5 x6 x7 x8 x9 x10 x11
    have HWF : Hid (Qc.wf (Qf.c ⟨⟨6, 0, 4611686018427387903 - (n : Int) + D, false, 0, 0, 0, [], xs, false, false, 0⟩, none, 0, 0, a, n, cap⟩)) := Lib.hid (lim_wf _ _ _ _ _ ⟨by omega, by omega⟩ inU_0 ⟨by have := HDB.out; omega, by have := HDB.out; omega⟩ inU_0)
    have HSM : Hid (Qc.Small (Qf.c ⟨⟨6, 0, 4611686018427387903 - (n : Int) + D, false, 0, 0, 0, [], xs, false, false, 0⟩, none, 0, 0, a, n, cap⟩)) := Lib.hid ⟨by show xs.length ≤ 1000; have := HN.out; omega, by show (0 : Nat) ≤ 100; omega, by show (0 : Int) ≤ 10000; omega⟩
    have HLIM : Hid ((encQ (Qf.c ⟨⟨6, 0, 4611686018427387903 - (n : Int) + D, false, 0, 0, 0, [], xs, false, false, 0⟩, none, 0, 0, a, n, cap⟩)).isSome = B) := Lib.hid (by rw [← HB.out]; exact lim_3 xs n HN.out D hn HDB.out.1 HDB.out.2)
    have HQI : Hid (∀ w', Below w.heap.size w w' → Qin w' ⟨⟨6, 0, 4611686018427387903 - (n : Int) + D, false, 0, 0, 0, [], xs, false, false, 0⟩, none, 0, 0, a, n, cap⟩) := Lib.hid (fun w' HB' => ⟨HBB.out w' HB', Rv.nil _, HWF.out⟩)
    refine calls_named ?_
    intro w4 hw4
    have HK4 : Hid (Below w3.heap.size w3 w4) := Lib.hid (by rw [← hw4]; exact (Below.refl _ _).alloc (Nat.le_refl _) _)
    have HR4 : Hid (Blk w4 w3.heap.size #[.int .u64 6, .int .u64 0, .int .u64 (4611686018427387903 - (n : Int) + D), .bool false, .int .u64 0, .int .u64 0, .int .u64 0, .slice none 0 0, .slice a n cap, .bool false, .bool false, .int .i64 0] 32) := Lib.hid (by rw [← hw4]; exact Blk.new _ _ _)
    clear hw4
    have HX4 : Hid (Below w.heap.size w w4) := Lib.hid (HX3.out.trans (HK4.out.mono HX3.out.size))
    have hlt4 : w3.heap.size < w4.heap.size := HR4.out.lt
    refine (qwrite_any none 0 0 [] (some ⟨w3.heap.size, 0, none⟩) 1 1 [⟨⟨6, 0, 4611686018427387903 - (n : Int) + D, false, 0, 0, 0, [], xs, false, false, 0⟩, none, 0, 0, a, n, cap⟩] w4 (By.nil _) (fun w' h => by
      refine Qv.blk ((Below.keeps h).blk HR4.out (by omega)) [⟨⟨6, 0, 4611686018427387903 - (n : Int) + D, false, 0, 0, 0, [], xs, false, false, 0⟩, none, 0, 0, a, n, cap⟩] rfl (by simp) (fun g hg => ?_)
      simp only [List.mem_cons, List.not_mem_nil, or_false] at hg
      subst hg
      exact HQI.out w' (HX4.out.trans (h.mono HX4.out.size))) (fun g hg => by
      simp only [List.mem_cons, List.not_mem_nil, or_false] at hg
      subst hg
      exact HSM.out) (by omega) (by simp)).mono ?_
    rintro e w5 ⟨hk5, hr5⟩
    have HX5 : Hid (Below w.heap.size w w5) := Lib.hid (HX4.out.trans (hk5.mono HX4.out.size))
    have HF5 : Hid (Blk w5 fb #[.int .u64 6, .int .u64 0, .int .u64 (4611686018427387903 - (n : Int) + D), .bool false, .int .u64 0, .int .u64 0, .int .u64 0, .slice none 0 0, .slice a n cap, .bool false, .bool false, .int .i64 0] 32) := Lib.hid ((Below.keeps hk5).blk ((Below.keeps HK4.out).blk HF3.out (by have := HF3.out.lt; omega)) (by have := HF3.out.lt; omega))
    obtain ⟨x0, x1, x2, x3, x4, x5, x6, x7, x8, x9, x10, x11⟩ := q12_cells HF5.out
    clear hk5 hlt4
    cases hen : encQ (Qf.c ⟨⟨6, 0, 4611686018427387903 - (n : Int) + D, false, 0, 0, 0, [], xs, false, false, 0⟩, none, 0, 0, a, n, cap⟩) with
    | none =>
      have HBF : Hid (B = false) := Lib.hid (by rw [← HLIM.out, hen]; rfl)
      have HEN := Lib.hid (enc_one_none (f := ⟨⟨6, 0, 4611686018427387903 - (n : Int) + D, false, 0, 0, 0, [], xs, false, false, 0⟩, none, 0, 0, a, n, cap⟩) hen)
      rw [HEN.out] at hr5
      have hr' : e = .returned (.tuple #[.slice none 0 0, .int .i64 30]) := hr5
      subst hr'
      clear hr5 hen
      obtain rfl := HBF.out
      go_wp2_with fail
      clear x0 x1 x2 x3 x4 x5 x6 x7 x8 x9 x10 x11
      refine calls_named ?_
      intro w6 hw6
      have HK6 : Hid (Below w5.heap.size w5 w6) := Lib.hid (by rw [← hw6]; exact (Below.refl _ _).alloc (Nat.le_refl _) _)
      have HR6 : Hid (Blk w6 w5.heap.size #[.int .u64 6, .int .u64 0, .int .u64 (4611686018427387903 - (n : Int) + D), .bool false, .int .u64 0, .int .u64 0, .int .u64 0, .slice none 0 0, .slice a n cap, .bool false, .bool false, .int .i64 0] 32) := Lib.hid (by rw [← hw6]; exact Blk.new _ _ _)
      clear hw6
      have HX6 : Hid (Below w.heap.size w w6) := Lib.hid (HX5.out.trans (HK6.out.mono HX5.out.size))
      have hlt6 : w5.heap.size < w6.heap.size := HR6.out.lt
      refine (rframes_any w6.heap.size none 0 0 [] (some ⟨w5.heap.size, 0, none⟩) 1 1 [⟨⟨6, 0, 4611686018427387903 - (n : Int) + D, false, 0, 0, 0, [], xs, false, false, 0⟩, none, 0, 0, a, n, cap⟩] w6 (Sb.nil _ _) (fun w' h => by
        refine Qv.blk ((Below.keeps h).blk HR6.out (by omega)) [⟨⟨6, 0, 4611686018427387903 - (n : Int) + D, false, 0, 0, 0, [], xs, false, false, 0⟩, none, 0, 0, a, n, cap⟩] rfl (by simp) (fun g hg => ?_)
        simp only [List.mem_cons, List.not_mem_nil, or_false] at hg
        subst hg
        exact HQI.out w' (HX6.out.trans (h.mono HX6.out.size))) (fun g hg => by
        simp only [List.mem_cons, List.not_mem_nil, or_false] at hg
        subst hg
        exact HSM.out) (by omega) (by simp) (Nat.le_refl _)).mono ?_
      intro e w7 h7
      have HX7 : Hid (Below w.heap.size w w7) := Lib.hid (HX6.out.trans (h7.below.mono HX6.out.size))
      obtain ⟨hk7, hr7⟩ := h7
      rw [HEN.out] at hr7
      have hr' : e = .returned (.tuple #[.slice none 0 0, .int .i64 30]) := hr7
      subst hr'
      clear hk7 hr7 hlt6
      go_wp2_with fail
      go_returns
      exact ⟨rfl, HX7.out⟩
    | some zs =>
      have HBF : Hid (B = true) := Lib.hid (by rw [← HLIM.out, hen]; rfl)
      have HEN := Lib.hid (enc_one_some (f := ⟨⟨6, 0, 4611686018427387903 - (n : Int) + D, false, 0, 0, 0, [], xs, false, false, 0⟩, none, 0, 0, a, n, cap⟩) hen)
      rw [HEN.out] at hr5
      obtain ⟨a5, n5, c5, rfl, ho5⟩ := hr5
      clear ho5 hen
      obtain rfl := HBF.out
      go_wp2_with fail
      clear x0 x1 x2 x3 x4 x5 x6 x7 x8 x9 x10 x11
      refine calls_named ?_
      intro w6 hw6
      have HK6 : Hid (Below w5.heap.size w5 w6) := Lib.hid (by rw [← hw6]; exact (Below.refl _ _).alloc (Nat.le_refl _) _)
      have HR6 : Hid (Blk w6 w5.heap.size #[.int .u64 6, .int .u64 0, .int .u64 (4611686018427387903 - (n : Int) + D), .bool false, .int .u64 0, .int .u64 0, .int .u64 0, .slice none 0 0, .slice a n cap, .bool false, .bool false, .int .i64 0] 32) := Lib.hid (by rw [← hw6]; exact Blk.new _ _ _)
      clear hw6
      have HX6 : Hid (Below w.heap.size w w6) := Lib.hid (HX5.out.trans (HK6.out.mono HX5.out.size))
      have hlt6 : w5.heap.size < w6.heap.size := HR6.out.lt
      refine (rframes_any w6.heap.size none 0 0 [] (some ⟨w5.heap.size, 0, none⟩) 1 1 [⟨⟨6, 0, 4611686018427387903 - (n : Int) + D, false, 0, 0, 0, [], xs, false, false, 0⟩, none, 0, 0, a, n, cap⟩] w6 (Sb.nil _ _) (fun w' h => by
        refine Qv.blk ((Below.keeps h).blk HR6.out (by omega)) [⟨⟨6, 0, 4611686018427387903 - (n : Int) + D, false, 0, 0, 0, [], xs, false, false, 0⟩, none, 0, 0, a, n, cap⟩] rfl (by simp) (fun g hg => ?_)
        simp only [List.mem_cons, List.not_mem_nil, or_false] at hg
        subst hg
        exact HQI.out w' (HX6.out.trans (h.mono HX6.out.size))) (fun g hg => by
        simp only [List.mem_cons, List.not_mem_nil, or_false] at hg
        subst hg
        exact HSM.out) (by omega) (by simp) (Nat.le_refl _)).mono ?_
      intro e w7 h7
      have HX7 : Hid (Below w.heap.size w w7) := Lib.hid (HX6.out.trans (h7.below.mono HX6.out.size))
      obtain ⟨hk7, hr7⟩ := h7
      rw [HEN.out] at hr7
      obtain ⟨a7, n7, c7, rfl, hs7, _⟩ := hr7
      clear hk7 hs7 hlt6
      go_wp2_with fail
      go_returns
      exact ⟨rfl, HX7.out⟩


  by_cases hc4 : what % 5 = 4
  · obtain ⟨t0, t1, t2, t3, t4, t5, t6, t7, t8, t9, t10, t11⟩ := q12_cells HF2.out
    obtain ⟨z0, z1, z2, z3, z4, z5, z6, z7, z8, z9, z10, z11⟩ := q12_free HF2.out
    go_upto_region 17 with fail
    refine wp_named ?_
    intro w3 hw3
    have HF3 : Hid (Blk w3 fb #[.int .u64 25, .int .u64 (4611686018427387903 + D), .int .u64 0, .bool false, .int .u64 0, .int .u64 0, .int .u64 0, .slice none 0 0, .slice none 0 0, .bool false, .bool false, .int .i64 0] 32) := Lib.hid (by rw [← hw3]; exact qs_blk HF2.out _ _ _ _ _ _ _ _ _ _ _ _)
    have HX3 : Hid (Below w.heap.size w w3) := Lib.hid (by rw [← hw3]; exact Keeps.below HK2.out (qs_keep (S := fun k => k = fb) (Keeps.refl _ _) (fun _ => rfl) _ _ _ _ _ _ _ _ _ _ _ _) HK2.out.size (fun k h => by have := HSZ.out; omega))
    clear hw3 t0 z0 t1 z1 t2 z2 t3 z3 t4 z4 t5 z5 t6 z6 t7 z7 t8 z8 t9 z9 t10 z10 t11 z11
    obtain ⟨x0, x1, x2, x3, x4, x5, x6, x7, x8, x9, x10, x11⟩ := q12_cells HF3.out
    go_wp2_with fail
    clear x0 x1 x2 x3 x4 x5 x6 x7 x8 x9 x10 x11
    have HWF : Hid (Qc.wf (Qf.c ⟨⟨25, 4611686018427387903 + D, 0, false, 0, 0, 0, [], [], false, false, 0⟩, none, 0, 0, none, 0, 0⟩)) := Lib.hid (lim_wf _ _ _ _ _ ⟨by omega, by omega⟩ ⟨by have := HDB.out; omega, by have := HDB.out; omega⟩ inU_0 inU_0)
    have HSM : Hid (Qc.Small (Qf.c ⟨⟨25, 4611686018427387903 + D, 0, false, 0, 0, 0, [], [], false, false, 0⟩, none, 0, 0, none, 0, 0⟩)) := Lib.hid ⟨by show (0 : Nat) ≤ 1000; omega, by show (0 : Nat) ≤ 100; omega, by show (0 : Int) ≤ 10000; omega⟩
    have HLIM : Hid ((encQ (Qf.c ⟨⟨25, 4611686018427387903 + D, 0, false, 0, 0, 0, [], [], false, false, 0⟩, none, 0, 0, none, 0, 0⟩)).isSome = B) := Lib.hid (by rw [← HB.out]; exact lim_4 D HDB.out.1 HDB.out.2)
    have HQI : Hid (∀ w', Below w.heap.size w w' → Qin w' ⟨⟨25, 4611686018427387903 + D, 0, false, 0, 0, 0, [], [], false, false, 0⟩, none, 0, 0, none, 0, 0⟩) := Lib.hid (fun w' HB' => ⟨By.nil _, Rv.nil _, HWF.out⟩)
    refine calls_named ?_
    intro w4 hw4
    have HK4 : Hid (Below w3.heap.size w3 w4) := Lib.hid (by rw [← hw4]; exact (Below.refl _ _).alloc (Nat.le_refl _) _)
    have HR4 : Hid (Blk w4 w3.heap.size #[.int .u64 25, .int .u64 (4611686018427387903 + D), .int .u64 0, .bool false, .int .u64 0, .int .u64 0, .int .u64 0, .slice none 0 0, .slice none 0 0, .bool false, .bool false, .int .i64 0] 32) := Lib.hid (by rw [← hw4]; exact Blk.new _ _ _)
    clear hw4
    have HX4 : Hid (Below w.heap.size w w4) := Lib.hid (HX3.out.trans (HK4.out.mono HX3.out.size))
    have hlt4 : w3.heap.size < w4.heap.size := HR4.out.lt
    refine (qwrite_any none 0 0 [] (some ⟨w3.heap.size, 0, none⟩) 1 1 [⟨⟨25, 4611686018427387903 + D, 0, false, 0, 0, 0, [], [], false, false, 0⟩, none, 0, 0, none, 0, 0⟩] w4 (By.nil _) (fun w' h => by
      refine Qv.blk ((Below.keeps h).blk HR4.out (by omega)) [⟨⟨25, 4611686018427387903 + D, 0, false, 0, 0, 0, [], [], false, false, 0⟩, none, 0, 0, none, 0, 0⟩] rfl (by simp) (fun g hg => ?_)
      simp only [List.mem_cons, List.not_mem_nil, or_false] at hg
      subst hg
      exact HQI.out w' (HX4.out.trans (h.mono HX4.out.size))) (fun g hg => by
      simp only [List.mem_cons, List.not_mem_nil, or_false] at hg
      subst hg
      exact HSM.out) (by omega) (by simp)).mono ?_
    rintro e w5 ⟨hk5, hr5⟩
    have HX5 : Hid (Below w.heap.size w w5) := Lib.hid (HX4.out.trans (hk5.mono HX4.out.size))
    have HF5 : Hid (Blk w5 fb #[.int .u64 25, .int .u64 (4611686018427387903 + D), .int .u64 0, .bool false, .int .u64 0, .int .u64 0, .int .u64 0, .slice none 0 0, .slice none 0 0, .bool false, .bool false, .int .i64 0] 32) := Lib.hid ((Below.keeps hk5).blk ((Below.keeps HK4.out).blk HF3.out (by have := HF3.out.lt; omega)) (by have := HF3.out.lt; omega))
    obtain ⟨x0, x1, x2, x3, x4, x5, x6, x7, x8, x9, x10, x11⟩ := q12_cells HF5.out
    clear hk5 hlt4
    cases hen : encQ (Qf.c ⟨⟨25, 4611686018427387903 + D, 0, false, 0, 0, 0, [], [], false, false, 0⟩, none, 0, 0, none, 0, 0⟩) with
    | none =>
      have HBF : Hid (B = false) := Lib.hid (by rw [← HLIM.out, hen]; rfl)
      have HEN := Lib.hid (enc_one_none (f := ⟨⟨25, 4611686018427387903 + D, 0, false, 0, 0, 0, [], [], false, false, 0⟩, none, 0, 0, none, 0, 0⟩) hen)
      rw [HEN.out] at hr5
      have hr' : e = .returned (.tuple #[.slice none 0 0, .int .i64 30]) := hr5
      subst hr'
      clear hr5 hen
      obtain rfl := HBF.out
      go_wp2_with fail
      clear x0 x1 x2 x3 x4 x5 x6 x7 x8 x9 x10 x11
      refine calls_named ?_
      intro w6 hw6
      have HK6 : Hid (Below w5.heap.size w5 w6) := Lib.hid (by rw [← hw6]; exact (Below.refl _ _).alloc (Nat.le_refl _) _)
      have HR6 : Hid (Blk w6 w5.heap.size #[.int .u64 25, .int .u64 (4611686018427387903 + D), .int .u64 0, .bool false, .int .u64 0, .int .u64 0, .int .u64 0, .slice none 0 0, .slice none 0 0, .bool false, .bool false, .int .i64 0] 32) := Lib.hid (by rw [← hw6]; exact Blk.new _ _ _)
      clear hw6
      have HX6 : Hid (Below w.heap.size w w6) := Lib.hid (HX5.out.trans (HK6.out.mono HX5.out.size))
      have hlt6 : w5.heap.size < w6.heap.size := HR6.out.lt
      refine (rframes_any w6.heap.size none 0 0 [] (some ⟨w5.heap.size, 0, none⟩) 1 1 [⟨⟨25, 4611686018427387903 + D, 0, false, 0, 0, 0, [], [], false, false, 0⟩, none, 0, 0, none, 0, 0⟩] w6 (Sb.nil _ _) (fun w' h => by
        refine Qv.blk ((Below.keeps h).blk HR6.out (by omega)) [⟨⟨25, 4611686018427387903 + D, 0, false, 0, 0, 0, [], [], false, false, 0⟩, none, 0, 0, none, 0, 0⟩] rfl (by simp) (fun g hg => ?_)
        simp only [List.mem_cons, List.not_mem_nil, or_false] at hg
        subst hg
        exact HQI.out w' (HX6.out.trans (h.mono HX6.out.size))) (fun g hg => by
        simp only [List.mem_cons, List.not_mem_nil, or_false] at hg
        subst hg
        exact HSM.out) (by omega) (by simp) (Nat.le_refl _)).mono ?_
      intro e w7 h7
      have HX7 : Hid (Below w.heap.size w w7) := Lib.hid (HX6.out.trans (h7.below.mono HX6.out.size))
      obtain ⟨hk7, hr7⟩ := h7
      rw [HEN.out] at hr7
      have hr' : e = .returned (.tuple #[.slice none 0 0, .int .i64 30]) := hr7
      subst hr'
      clear hk7 hr7 hlt6
      go_wp2_with fail
      go_returns
      exact ⟨rfl, HX7.out⟩
    | some zs =>
      have HBF : Hid (B = true) := Lib.hid (by rw [← HLIM.out, hen]; rfl)
      have HEN := Lib.hid (enc_one_some (f := ⟨⟨25, 4611686018427387903 + D, 0, false, 0, 0, 0, [], [], false, false, 0⟩, none, 0, 0, none, 0, 0⟩) hen)
      rw [HEN.out] at hr5
      obtain ⟨a5, n5, c5, rfl, ho5⟩ := hr5
      clear ho5 hen
      obtain rfl := HBF.out
      go_wp2_with fail
      clear x0 x1 x2 x3 x4 x5 x6 x7 x8 x9 x10 x11
      refine calls_named ?_
      intro w6 hw6
      have HK6 : Hid (Below w5.heap.size w5 w6) := Lib.hid (by rw [← hw6]; exact (Below.refl _ _).alloc (Nat.le_refl _) _)
      have HR6 : Hid (Blk w6 w5.heap.size #[.int .u64 25, .int .u64 (4611686018427387903 + D), .int .u64 0, .bool false, .int .u64 0, .int .u64 0, .int .u64 0, .slice none 0 0, .slice none 0 0, .bool false, .bool false, .int .i64 0] 32) := Lib.hid (by rw [← hw6]; exact Blk.new _ _ _)
      clear hw6
      have HX6 : Hid (Below w.heap.size w w6) := Lib.hid (HX5.out.trans (HK6.out.mono HX5.out.size))
      have hlt6 : w5.heap.size < w6.heap.size := HR6.out.lt
      refine (rframes_any w6.heap.size none 0 0 [] (some ⟨w5.heap.size, 0, none⟩) 1 1 [⟨⟨25, 4611686018427387903 + D, 0, false, 0, 0, 0, [], [], false, false, 0⟩, none, 0, 0, none, 0, 0⟩] w6 (Sb.nil _ _) (fun w' h => by
        refine Qv.blk ((Below.keeps h).blk HR6.out (by omega)) [⟨⟨25, 4611686018427387903 + D, 0, false, 0, 0, 0, [], [], false, false, 0⟩, none, 0, 0, none, 0, 0⟩] rfl (by simp) (fun g hg => ?_)
        simp only [List.mem_cons, List.not_mem_nil, or_false] at hg
        subst hg
        exact HQI.out w' (HX6.out.trans (h.mono HX6.out.size))) (fun g hg => by
        simp only [List.mem_cons, List.not_mem_nil, or_false] at hg
        subst hg
        exact HSM.out) (by omega) (by simp) (Nat.le_refl _)).mono ?_
      intro e w7 h7
      have HX7 : Hid (Below w.heap.size w w7) := Lib.hid (HX6.out.trans (h7.below.mono HX6.out.size))
      obtain ⟨hk7, hr7⟩ := h7
      rw [HEN.out] at hr7
      obtain ⟨a7, n7, c7, rfl, hs7, _⟩ := hr7
      clear hk7 hs7 hlt6
      go_wp2_with fail
      go_returns
      exact ⟨rfl, HX7.out⟩


  have hc0 : what % 5 = 0 := by omega
  clear hc1 hc2 hc3 hc4
  go_upto_region 17 with fail
  have HX2 : Hid (Below w.heap.size w w2) := HK2
  have HF2' := HF2
  obtain ⟨x0, x1, x2, x3, x4, x5, x6, x7, x8, x9, x10, x11⟩ := q12_cells HF2.out
  go_wp2_with fail
  clear x0 x1 x2 x3 x4 x5 x6 x7 x8 x9 x10 x11
  have HWF : Hid (Qc.wf (Qf.c ⟨⟨8, 0, 4611686018427387903 - (n : Int) + D, false, 0, 0, 0, [], xs, false, false, 0⟩, none, 0, 0, a, n, cap⟩)) := Lib.hid (lim_wf _ _ _ _ _ ⟨by omega, by omega⟩ inU_0 ⟨by have := HDB.out; omega, by have := HDB.out; omega⟩ inU_0)
  have HSM : Hid (Qc.Small (Qf.c ⟨⟨8, 0, 4611686018427387903 - (n : Int) + D, false, 0, 0, 0, [], xs, false, false, 0⟩, none, 0, 0, a, n, cap⟩)) := Lib.hid ⟨by show xs.length ≤ 1000; have := HN.out; omega, by show (0 : Nat) ≤ 100; omega, by show (0 : Int) ≤ 10000; omega⟩
  have HLIM : Hid ((encQ (Qf.c ⟨⟨8, 0, 4611686018427387903 - (n : Int) + D, false, 0, 0, 0, [], xs, false, false, 0⟩, none, 0, 0, a, n, cap⟩)).isSome = B) := Lib.hid (by rw [← HB.out]; exact lim_0 xs n HN.out D hn HDB.out.1 HDB.out.2)
  have HQI : Hid (∀ w', Below w.heap.size w w' → Qin w' ⟨⟨8, 0, 4611686018427387903 - (n : Int) + D, false, 0, 0, 0, [], xs, false, false, 0⟩, none, 0, 0, a, n, cap⟩) := Lib.hid (fun w' HB' => ⟨HBB.out w' HB', Rv.nil _, HWF.out⟩)
  refine calls_named ?_
  intro w4 hw4
  have HK4 : Hid (Below w2.heap.size w2 w4) := Lib.hid (by rw [← hw4]; exact (Below.refl _ _).alloc (Nat.le_refl _) _)
  have HR4 : Hid (Blk w4 w2.heap.size #[.int .u64 8, .int .u64 0, .int .u64 (4611686018427387903 - (n : Int) + D), .bool false, .int .u64 0, .int .u64 0, .int .u64 0, .slice none 0 0, .slice a n cap, .bool false, .bool false, .int .i64 0] 32) := Lib.hid (by rw [← hw4]; exact Blk.new _ _ _)
  clear hw4
  have HX4 : Hid (Below w.heap.size w w4) := Lib.hid (HX2.out.trans (HK4.out.mono HX2.out.size))
  have hlt4 : w2.heap.size < w4.heap.size := HR4.out.lt
  refine (qwrite_any none 0 0 [] (some ⟨w2.heap.size, 0, none⟩) 1 1 [⟨⟨8, 0, 4611686018427387903 - (n : Int) + D, false, 0, 0, 0, [], xs, false, false, 0⟩, none, 0, 0, a, n, cap⟩] w4 (By.nil _) (fun w' h => by
    refine Qv.blk ((Below.keeps h).blk HR4.out (by omega)) [⟨⟨8, 0, 4611686018427387903 - (n : Int) + D, false, 0, 0, 0, [], xs, false, false, 0⟩, none, 0, 0, a, n, cap⟩] rfl (by simp) (fun g hg => ?_)
    simp only [List.mem_cons, List.not_mem_nil, or_false] at hg
    subst hg
    exact HQI.out w' (HX4.out.trans (h.mono HX4.out.size))) (fun g hg => by
    simp only [List.mem_cons, List.not_mem_nil, or_false] at hg
    subst hg
    exact HSM.out) (by omega) (by simp)).mono ?_
  rintro e w5 ⟨hk5, hr5⟩
  have HX5 : Hid (Below w.heap.size w w5) := Lib.hid (HX4.out.trans (hk5.mono HX4.out.size))
  have HF5 : Hid (Blk w5 fb #[.int .u64 8, .int .u64 0, .int .u64 (4611686018427387903 - (n : Int) + D), .bool false, .int .u64 0, .int .u64 0, .int .u64 0, .slice none 0 0, .slice a n cap, .bool false, .bool false, .int .i64 0] 32) := Lib.hid ((Below.keeps hk5).blk ((Below.keeps HK4.out).blk HF2.out (by have := HF2.out.lt; omega)) (by have := HF2.out.lt; omega))
  obtain ⟨x0, x1, x2, x3, x4, x5, x6, x7, x8, x9, x10, x11⟩ := q12_cells HF5.out
  clear hk5 hlt4
  cases hen : encQ (Qf.c ⟨⟨8, 0, 4611686018427387903 - (n : Int) + D, false, 0, 0, 0, [], xs, false, false, 0⟩, none, 0, 0, a, n, cap⟩) with
  | none =>
    have HBF : Hid (B = false) := Lib.hid (by rw [← HLIM.out, hen]; rfl)
    have HEN := Lib.hid (enc_one_none (f := ⟨⟨8, 0, 4611686018427387903 - (n : Int) + D, false, 0, 0, 0, [], xs, false, false, 0⟩, none, 0, 0, a, n, cap⟩) hen)
    rw [HEN.out] at hr5
    have hr' : e = .returned (.tuple #[.slice none 0 0, .int .i64 30]) := hr5
    subst hr'
    clear hr5 hen
    obtain rfl := HBF.out
    go_wp2_with fail
    clear x0 x1 x2 x3 x4 x5 x6 x7 x8 x9 x10 x11
    refine calls_named ?_
    intro w6 hw6
    have HK6 : Hid (Below w5.heap.size w5 w6) := Lib.hid (by rw [← hw6]; exact (Below.refl _ _).alloc (Nat.le_refl _) _)
    have HR6 : Hid (Blk w6 w5.heap.size #[.int .u64 8, .int .u64 0, .int .u64 (4611686018427387903 - (n : Int) + D), .bool false, .int .u64 0, .int .u64 0, .int .u64 0, .slice none 0 0, .slice a n cap, .bool false, .bool false, .int .i64 0] 32) := Lib.hid (by rw [← hw6]; exact Blk.new _ _ _)
    clear hw6
    have HX6 : Hid (Below w.heap.size w w6) := Lib.hid (HX5.out.trans (HK6.out.mono HX5.out.size))
    have hlt6 : w5.heap.size < w6.heap.size := HR6.out.lt
    refine (rframes_any w6.heap.size none 0 0 [] (some ⟨w5.heap.size, 0, none⟩) 1 1 [⟨⟨8, 0, 4611686018427387903 - (n : Int) + D, false, 0, 0, 0, [], xs, false, false, 0⟩, none, 0, 0, a, n, cap⟩] w6 (Sb.nil _ _) (fun w' h => by
      refine Qv.blk ((Below.keeps h).blk HR6.out (by omega)) [⟨⟨8, 0, 4611686018427387903 - (n : Int) + D, false, 0, 0, 0, [], xs, false, false, 0⟩, none, 0, 0, a, n, cap⟩] rfl (by simp) (fun g hg => ?_)
      simp only [List.mem_cons, List.not_mem_nil, or_false] at hg
      subst hg
      exact HQI.out w' (HX6.out.trans (h.mono HX6.out.size))) (fun g hg => by
      simp only [List.mem_cons, List.not_mem_nil, or_false] at hg
      subst hg
      exact HSM.out) (by omega) (by simp) (Nat.le_refl _)).mono ?_
    intro e w7 h7
    have HX7 : Hid (Below w.heap.size w w7) := Lib.hid (HX6.out.trans (h7.below.mono HX6.out.size))
    obtain ⟨hk7, hr7⟩ := h7
    rw [HEN.out] at hr7
    have hr' : e = .returned (.tuple #[.slice none 0 0, .int .i64 30]) := hr7
    subst hr'
    clear hk7 hr7 hlt6
    go_wp2_with fail
    go_returns
    exact ⟨rfl, HX7.out⟩
  | some zs =>
    have HBF : Hid (B = true) := Lib.hid (by rw [← HLIM.out, hen]; rfl)
    have HEN := Lib.hid (enc_one_some (f := ⟨⟨8, 0, 4611686018427387903 - (n : Int) + D, false, 0, 0, 0, [], xs, false, false, 0⟩, none, 0, 0, a, n, cap⟩) hen)
    rw [HEN.out] at hr5
    obtain ⟨a5, n5, c5, rfl, ho5⟩ := hr5
    clear ho5 hen
    obtain rfl := HBF.out
    go_wp2_with fail
    clear x0 x1 x2 x3 x4 x5 x6 x7 x8 x9 x10 x11
    refine calls_named ?_
    intro w6 hw6
    have HK6 : Hid (Below w5.heap.size w5 w6) := Lib.hid (by rw [← hw6]; exact (Below.refl _ _).alloc (Nat.le_refl _) _)
    have HR6 : Hid (Blk w6 w5.heap.size #[.int .u64 8, .int .u64 0, .int .u64 (4611686018427387903 - (n : Int) + D), .bool false, .int .u64 0, .int .u64 0, .int .u64 0, .slice none 0 0, .slice a n cap, .bool false, .bool false, .int .i64 0] 32) := Lib.hid (by rw [← hw6]; exact Blk.new _ _ _)
    clear hw6
    have HX6 : Hid (Below w.heap.size w w6) := Lib.hid (HX5.out.trans (HK6.out.mono HX5.out.size))
    have hlt6 : w5.heap.size < w6.heap.size := HR6.out.lt
    refine (rframes_any w6.heap.size none 0 0 [] (some ⟨w5.heap.size, 0, none⟩) 1 1 [⟨⟨8, 0, 4611686018427387903 - (n : Int) + D, false, 0, 0, 0, [], xs, false, false, 0⟩, none, 0, 0, a, n, cap⟩] w6 (Sb.nil _ _) (fun w' h => by
      refine Qv.blk ((Below.keeps h).blk HR6.out (by omega)) [⟨⟨8, 0, 4611686018427387903 - (n : Int) + D, false, 0, 0, 0, [], xs, false, false, 0⟩, none, 0, 0, a, n, cap⟩] rfl (by simp) (fun g hg => ?_)
      simp only [List.mem_cons, List.not_mem_nil, or_false] at hg
      subst hg
      exact HQI.out w' (HX6.out.trans (h.mono HX6.out.size))) (fun g hg => by
      simp only [List.mem_cons, List.not_mem_nil, or_false] at hg
      subst hg
      exact HSM.out) (by omega) (by simp) (Nat.le_refl _)).mono ?_
    intro e w7 h7
    have HX7 : Hid (Below w.heap.size w w7) := Lib.hid (HX6.out.trans (h7.below.mono HX6.out.size))
    obtain ⟨hk7, hr7⟩ := h7
    rw [HEN.out] at hr7
    obtain ⟨a7, n7, c7, rfl, hs7, _⟩ := hr7
    clear hk7 hs7 hlt6
    go_wp2_with fail
    go_returns
    exact ⟨rfl, HX7.out⟩


end Go.Proofs.Ytgfkgmmigbpciaa
