/- A block that is split: the program. -/
import Derived.Test.YtcfljnlfikkhaaaBlkG
import Derived.Test.YtcfljnlfikkhaaaPayI
namespace Go.Proofs.Ytcfljnlfikkhaaa
open Go.RowKit Go.Deep

theorem sp_first (st : Int) (en : Bool) (p : Nat) (ys : List UInt8) (a : Option Addr) (n c k : Nat) (hn : n = ys.length) (hk : k = if n ≤ p then n else p) :
    SpAt st en p ys 0 ⟨1, hfl en (decide (n ≤ p)), st, a, k, c, ys.take k⟩ := by
  refine ⟨rfl, ?_, rfl, ?_⟩
  · show hfl en (decide (n ≤ p)) = spF en p ys.length 0
    unfold hfl spF spL
    rw [if_pos rfl, show (0 + 1) * p = p by omega, ← hn]
  · show ys.take k = (ys.drop (0 * p)).take p
    rw [Nat.zero_mul, List.drop_zero]
    split at hk
    · rw [hk, List.take_of_length_le (by omega), List.take_of_length_le (by omega)]
    · rw [hk]
theorem sp_next (st : Int) (en : Bool) (p : Nat) (ys : List UInt8) (i nb : Nat) (a : Option Addr) (c k : Nat) (fl : Int) (hi : 1 ≤ i) (hnb : nb = ys.length - i * p) (hpos : 0 < nb) (hk : k = if nb ≤ p then nb else p) (hfl : fl = if nb ≤ p then 4 else 0) :
    SpAt st en p ys i ⟨9, fl, st, a, k, c, (ys.drop (i * p)).take k⟩ := by
  have h2 : (i + 1) * p = i * p + p := Nat.succ_mul i p
  refine ⟨?_, ?_, rfl, ?_⟩
  · show 9 = spT i
    unfold spT
    rw [if_neg (by omega)]
  · show fl = spF en p ys.length i
    unfold spF spL
    rw [if_neg (show ¬ i = 0 by omega), hfl]
    by_cases h : nb ≤ p
    · rw [if_pos h, decide_eq_true (show ys.length ≤ (i + 1) * p by omega)]; rfl
    · rw [if_neg h, decide_eq_false (show ¬ ys.length ≤ (i + 1) * p by omega)]; rfl
  · show (ys.drop (i * p)).take k = (ys.drop (i * p)).take p
    split at hk
    · rw [hk, List.take_of_length_le (by simp; omega), List.take_of_length_le (by simp; omega)]
    · rw [hk]
theorem drop_next (p : Nat) (ys : List UInt8) (i nb k : Nat) (hnb : nb = ys.length - i * p) (hk : k = if nb ≤ p then nb else p) : (ys.drop (i * p)).drop k = ys.drop ((i + 1) * p) ∧ nb - k = ys.length - (i + 1) * p := by
  have h2 : (i + 1) * p = i * p + p := Nat.succ_mul i p
  split at hk
  · refine ⟨?_, by omega⟩
    rw [List.drop_of_length_le (by simp; omega), List.drop_of_length_le (by omega)]
  · refine ⟨?_, by omega⟩
    rw [List.drop_drop, hk, h2]

set_option maxRecDepth 100000 in
set_option maxHeartbeats 3200000 in
theorem split_any (st : Int) (en : Bool) (p : Nat) (a : Option Addr) (n cap : Nat) (ys : List UInt8) (w : World) (hx : By w a n cap ys) (hn : n ≤ 1000) (hp0 : 1 ≤ p) (hp1 : p ≤ 16384) :
    Calls Try.prog 13 #[.int .u32 st, .bool en, .slice a n cap, .int .i64 (p : Int)] w (SplP st en p ys w) := by
  have hxl := hx.1
  have hcap := hx.2.le
  have HX := Lib.hid hx
  have HLT : Hid (∀ b, a.map (·.block) = some b → b < w.heap.size ∨ n = 0) := fun b hb => by
    rcases hx.2.at_ with h0 | ⟨b', off, rfl, hb', _⟩
    · right
      have : (Bs ys).length = ys.length := by simp [Bs]
      rw [h0] at this
      simp at this
      omega
    · left; simp at hb; omega
  have hpd1 : decide ((p : Int) < 1) = false := by simp; omega
  have hpd2 : decide ((16384 : Int) < (p : Int)) = false := by simp; omega
  clear hx
  by_cases hnp : n < p
  · have hkv : n = if n ≤ p then n else p := by rw [if_pos (by omega)]
    have hoff := offA_eq a cap n
    have hz1 : ((n : Int) < (p : Int)) := by omega
    have hz2 : (0 : Int) ≤ (n : Int) := by omega
    have hz3 : (n : Int) ≤ (cap : Int) := by omega
    have hz4 : (n : Int) ≤ (n : Int) := by omega
    have hz5 : (n : Int) ≤ (cap : Int) := by omega
    have hnx := drop_next p ys 0 n n (by omega) hkv
    rw [Nat.zero_mul, List.drop_zero] at hnx
    have HSP := Lib.hid (sp_first st en p ys none n 0 n hxl hkv)
    rw [show decide (n ≤ p) = true by simp; omega] at HSP
    have HNX := Lib.hid hnx
    have HXL := Lib.hid hxl
    clear hnx hkv hxl
    go_enter Try.func13, Try.ntmps13
    go_wp2_with fail
    refine (headers_any st en true a n cap (ys.take n) w (By.pre (n := n) HX.out (by omega)) (by omega)).mono ?_
    rintro e w1 ⟨a1, c1, rfl, hy1, hg1, hk1⟩
    generalize hhf : hfl en true = hf at *
    unfold FrV
    have HQ1 : Hid (Qo w.heap.size (w1.alloc (.cells #[.int .u8 1, .int .u8 hf, .int .u32 st, .slice a1 n c1] 33 (0, 0))) (some ⟨w1.heap.size, 0, none⟩) 1 [⟨1, hf, st, a1, n, c1, ys.take n⟩]) := Qo.one (w := w1) (base := w.heap.size) ⟨1, hf, st, a1, n, c1, ys.take n⟩ hk1.size hy1 hg1
    have HK1 := Lib.hid (hk1.alloc hk1.size (.cells #[.int .u8 1, .int .u8 hf, .int .u32 st, .slice a1 n c1] 33 (0, 0)))
    have HB1 := Lib.hid (((HX.out.keep (below_no hk1) (fun _ _ h => h)).alloc (.cells #[.int .u8 1, .int .u8 hf, .int .u32 st, .slice a1 n c1] 33 (0, 0))).from n (by omega))
    clear hk1 hy1 hg1 hhf
    go_wp2_with fail
    generalize w1.alloc (.cells #[.int .u8 1, .int .u8 hf, .int .u32 st, .slice a1 n c1] 33 (0, 0)) = w2 at *
    generalize w1.heap.size = z1 at *
    go_loopg [2, 10] (n - n) (fun k vb vo wr => ∃ (ab : Option Addr) (nb cb : Nat) (ao : Option Addr) (co : Nat) (l : List Fq), vb = .slice ab nb cb ∧ vo = .slice ao l.length co ∧ nb = k ∧ 1 ≤ l.length ∧ nb = n - l.length * p ∧ By wr ab nb cb (ys.drop (l.length * p)) ∧ ab.map (·.block) = a.map (·.block) ∧ Qo w.heap.size wr ao co l ∧ SpOK st en p ys l ∧ (l.length = 1 ∨ (l.length - 1) * p < n) ∧ Below w.heap.size w wr)
    case atStart => exact ⟨offA a cap n, n - n, cap - n, some ⟨z1, 0, none⟩, 1, [⟨1, hf, st, a1, n, c1, ys.take n⟩], by simp, rfl, rfl, Nat.le_refl _, by rw [HNX.out.2, ← HXL.out]; rfl, by show By w2 _ _ _ (ys.drop ((0 + 1) * p)); rw [← HNX.out.1]; exact HB1.out, offA_block _ _ _, HQ1.out, (SpOK.nil st en p ys).snoc (f := ⟨1, hf, st, a1, n, c1, ys.take n⟩) HSP.out, .inl rfl, HK1.out⟩
    case round =>
      obtain ⟨ab, nb, cb, ao, co, l, rfl, rfl, rfl, hl1, hnb, hby, hbl, hqo, hso, hla, hk⟩ := hrel
      have HBY := Lib.hid hby
      have HBL := Lib.hid hbl
      have HQO := Lib.hid hqo
      have HSO := Lib.hid hso
      have HNB := Lib.hid hnb
      have HL1 := Lib.hid hl1
      have HLA := Lib.hid hla
      have HK := Lib.hid hk
      have HLN : Hid (l.length ≤ 1001) := by
        show l.length ≤ 1001
        rcases hla with h | h
        · omega
        · have h2 : l.length - 1 ≤ (l.length - 1) * p := Nat.le_mul_of_pos_right _ hp0
          omega
      have hnbn : nb ≤ n := by omega
      clear hby hbl hqo hso hnb hl1 hla hk HQ1 HK1 HB1 HNX HSP
      by_cases hpos : 0 < nb
      · exfalso
        have h1 := HNB.out
        have h2 := Nat.le_mul_of_pos_left p HL1.out
        omega
      · have hn0 : nb = 0 := by omega
        have hz : decide ((0 : Int) < (nb : Int)) = false := by simp; omega
        go_wp2_with fail
        go_returns
        exact ⟨ao, co, l, rfl, HQO.out, HSO.out, HL1.out, by have := HNB.out; rw [← HXL.out]; omega, by rw [← HXL.out]; exact HLA.out, HK.out⟩

  · have hkv : p = if n ≤ p then n else p := by split <;> omega
    have hoff := offA_eq a cap p
    have hz1 : ((p : Int) ≤ (n : Int)) := by omega
    have hz2 : (0 : Int) ≤ (p : Int) := by omega
    have hz3 : (p : Int) ≤ (cap : Int) := by omega
    have hz4 : (p : Int) ≤ (n : Int) := by omega
    have hz5 : (n : Int) ≤ (cap : Int) := by omega
    have hnx := drop_next p ys 0 n p (by omega) hkv
    rw [Nat.zero_mul, List.drop_zero] at hnx
    have HSP := Lib.hid (sp_first st en p ys none n 0 p hxl hkv)
    rw [show decide (n ≤ p) = ((p : Int) == (n : Int)) by (rw [Bool.eq_iff_iff]; simp; omega)] at HSP
    have HNX := Lib.hid hnx
    have HXL := Lib.hid hxl
    clear hnx hkv hxl
    go_enter Try.func13, Try.ntmps13
    go_wp2_with fail
    refine (headers_any st en ((p : Int) == (n : Int)) a p cap (ys.take p) w (By.pre (n := n) HX.out (by omega)) (by omega)).mono ?_
    rintro e w1 ⟨a1, c1, rfl, hy1, hg1, hk1⟩
    generalize hhf : hfl en ((p : Int) == (n : Int)) = hf at *
    unfold FrV
    have HQ1 : Hid (Qo w.heap.size (w1.alloc (.cells #[.int .u8 1, .int .u8 hf, .int .u32 st, .slice a1 p c1] 33 (0, 0))) (some ⟨w1.heap.size, 0, none⟩) 1 [⟨1, hf, st, a1, p, c1, ys.take p⟩]) := Qo.one (w := w1) (base := w.heap.size) ⟨1, hf, st, a1, p, c1, ys.take p⟩ hk1.size hy1 hg1
    have HK1 := Lib.hid (hk1.alloc hk1.size (.cells #[.int .u8 1, .int .u8 hf, .int .u32 st, .slice a1 p c1] 33 (0, 0)))
    have HB1 := Lib.hid (((HX.out.keep (below_no hk1) (fun _ _ h => h)).alloc (.cells #[.int .u8 1, .int .u8 hf, .int .u32 st, .slice a1 p c1] 33 (0, 0))).from p (by omega))
    clear hk1 hy1 hg1 hhf
    go_wp2_with fail
    generalize w1.alloc (.cells #[.int .u8 1, .int .u8 hf, .int .u32 st, .slice a1 p c1] 33 (0, 0)) = w2 at *
    generalize w1.heap.size = z1 at *
    go_loopg [2, 10] (n - p) (fun k vb vo wr => ∃ (ab : Option Addr) (nb cb : Nat) (ao : Option Addr) (co : Nat) (l : List Fq), vb = .slice ab nb cb ∧ vo = .slice ao l.length co ∧ nb = k ∧ 1 ≤ l.length ∧ nb = n - l.length * p ∧ By wr ab nb cb (ys.drop (l.length * p)) ∧ ab.map (·.block) = a.map (·.block) ∧ Qo w.heap.size wr ao co l ∧ SpOK st en p ys l ∧ (l.length = 1 ∨ (l.length - 1) * p < n) ∧ Below w.heap.size w wr)
    case atStart => exact ⟨offA a cap p, n - p, cap - p, some ⟨z1, 0, none⟩, 1, [⟨1, hf, st, a1, p, c1, ys.take p⟩], by simp, rfl, rfl, Nat.le_refl _, by rw [HNX.out.2, ← HXL.out]; rfl, by show By w2 _ _ _ (ys.drop ((0 + 1) * p)); rw [← HNX.out.1]; exact HB1.out, offA_block _ _ _, HQ1.out, (SpOK.nil st en p ys).snoc (f := ⟨1, hf, st, a1, p, c1, ys.take p⟩) HSP.out, .inl rfl, HK1.out⟩
    case round =>
      obtain ⟨ab, nb, cb, ao, co, l, rfl, rfl, rfl, hl1, hnb, hby, hbl, hqo, hso, hla, hk⟩ := hrel
      have HBY := Lib.hid hby
      have HBL := Lib.hid hbl
      have HQO := Lib.hid hqo
      have HSO := Lib.hid hso
      have HNB := Lib.hid hnb
      have HL1 := Lib.hid hl1
      have HLA := Lib.hid hla
      have HK := Lib.hid hk
      have HLN : Hid (l.length ≤ 1001) := by
        show l.length ≤ 1001
        rcases hla with h | h
        · omega
        · have h2 : l.length - 1 ≤ (l.length - 1) * p := Nat.le_mul_of_pos_right _ hp0
          omega
      have hnbn : nb ≤ n := by omega
      clear hby hbl hqo hso hnb hl1 hla hk HQ1 HK1 HB1 HNX HSP
      by_cases hpos : 0 < nb
      · rcases Nat.lt_trichotomy nb p with hnp | hnp | hnp
        · have hkv : nb = if nb ≤ p then nb else p := by rw [if_pos (by omega)]
          have hoff := offA_eq ab cb nb
          have hz1 : ((nb : Int) < (p : Int)) := by omega
          have hz2 : (0 : Int) ≤ (nb : Int) := by omega
          have hz3 : (nb : Int) ≤ (cb : Int) := by have := HBY.out.2.le; omega
          have hz4 : (nb : Int) ≤ (nb : Int) := by omega
          have hz5 : (nb : Int) ≤ (cb : Int) := by have := HBY.out.2.le; omega
          have hz6 : ((nb : Int) == (nb : Int)) = true := by simp
          have hnx := drop_next p ys l.length nb nb (by rw [← HXL.out]; exact HNB.out) hkv
          have hsp := sp_next st en p ys l.length nb none 0 nb 4 HL1.out (by rw [← HXL.out]; exact HNB.out) (by omega) hkv (by rw [if_pos (by omega)])
          have HNX := Lib.hid hnx
          have HSP := Lib.hid hsp
          clear hnx hsp hkv
          go_wp2_with (at_builtin; refine halt ?_)
          refine Halted.go (wpList_copy8 _ rfl _ rfl _ nb _ ((ys.drop (l.length * p)).take nb) rfl (By.pre (n := nb) HBY.out (by omega)) (by omega) ?_)
          intro a6 c6 w6 ho6 hk6
          have hq6 := HQO.out.keep (below_no hk6) (fun _ h => False.elim h)
          have HBY6 := Lib.hid (HBY.out.keep (below_no hk6) (fun _ _ h => h))
          have HK6 := Lib.hid (HK.out.trans (hk6.mono HK.out.size))
          have HS6 : Hid (wr.heap.size ≤ w6.heap.size) := hk6.size
          have hka : Keeps (fun _ => False) w6 (w6.alloc (.cells #[.int .u8 9, .int .u8 4, .int .u32 st, .slice a6 nb c6] 33 (0, 0))) := (Keeps.refl _ w6).alloc _
          have hkb : Keeps (fun _ => False) w6 ((w6.alloc (.cells #[.int .u8 9, .int .u8 4, .int .u32 st, .slice a6 nb c6] 33 (0, 0))).alloc (.cells #[.int .u8 9, .int .u8 4, .int .u32 st, .slice a6 nb c6] 33 (0, 0))) := hka.alloc _
          have HQ8 := Lib.hid (hq6.keep hkb (fun _ h => False.elim h))
          have HBY8 := Lib.hid (HBY6.out.keep hkb (fun _ _ h => h))
          have HY8 := Lib.hid (ho6.by.keep hkb (fun _ _ h => h))
          have HG6 : Hid (∀ b, a6.map (·.block) = some b → wr.heap.size ≤ b ∧ b < w6.heap.size) := fun b hb => ho6.ge b hb
          have hfb := Blk.new (w6.alloc (.cells #[.int .u8 9, .int .u8 4, .int .u32 st, .slice a6 nb c6] 33 (0, 0))) #[.int .u8 9, .int .u8 4, .int .u32 st, .slice a6 nb c6] 33
          rw [World.size_alloc] at hfb
          have HFB := Lib.hid hfb
          obtain ⟨⟨f0, f1, f2, f3⟩, _⟩ := fr_cells (Blk.new w6 #[.int .u8 9, .int .u8 4, .int .u32 st, .slice a6 nb c6] 33)
          clear ho6 hk6 hq6 hka hkb hfb
          obtain ⟨i0, hi0, hi1, hi2, hi3⟩ := info_parts infoF
          have HI := Lib.hid hi0
          have HZ0 := Lib.hid hi1
          have HZ1 := Lib.hid hi2
          have HZ2 := Lib.hid hi3
          clear hi0 hi1 hi2 hi3
          go_wp2_with (at_builtin; refine halt ?_)
          refine Halted.go (wpList_app _ rfl _ _ 22 22 rfl w.heap.size 33 i0 _ 4 32 Try.underlying22 HI.out HZ0.out HZ1.out HZ2.out rfl ao l.length co (fqs l) rfl (.inl HQ8.out.1) (.slice (some ⟨w6.heap.size + 1, 0, none⟩) 1 1) rfl 1 [.int .u8 9, .int .u8 4, .int .u32 st, .slice a6 nb c6] (src_blk HFB.out Try.underlying22 rfl (by simp [Value.oneCell'])) (by unfold maxLen; have := HLN.out; omega) (by have := HLN.out; omega) (by have := HK6.out.size; simp; omega) ?_)
          intro a9 c9 w9 _ hk9 hn9 hown9 _
          have HQ9 : Hid (Qo w.heap.size w9 a9 c9 (l ++ [⟨9, 4, st, a6, nb, c6, (ys.drop (l.length * p)).take nb⟩])) := Lib.hid (Qo.snoc (f := ⟨9, 4, st, a6, nb, c6, (ys.drop (l.length * p)).take nb⟩) HQ8.out hk9 hn9 (hown9 (by omega)) HY8.out (fun b hb => by
            have h1 := HG6.out b hb
            have h0 := HK.out.size
            refine ⟨by omega, by simp; omega, fun e => ?_⟩
            have h2 := own_ge HQO.out.1 b e
            omega))
          have HK9 := Lib.hid (Keeps.mine_below ((HK6.out.alloc (by have := HK6.out.size; omega) (.cells #[.int .u8 9, .int .u8 4, .int .u32 st, .slice a6 nb c6] 33 (0, 0))).alloc (by have := HK6.out.size; simp; omega) (.cells #[.int .u8 9, .int .u8 4, .int .u32 st, .slice a6 nb c6] 33 (0, 0))) hk9 (by have := HK6.out.size; simp; omega) (Nat.le_refl _))
          have HBY9 := Lib.hid ((HBY8.out.keep hk9 (fun b hb h => by have h1 := HLT.out b (by rw [← HBL.out]; exact hb); have h2 := h.1; omega)).from nb (by omega))
          clear hk9 hn9 hown9 f0 f1 f2 f3
          go_wp2_with fail
          go_roundg (nb - nb)
          case measure => omega
          case rel => exact ⟨offA ab cb nb, nb - nb, cb - nb, a9, c9, l ++ [⟨9, 4, st, a6, nb, c6, (ys.drop (l.length * p)).take nb⟩], by first | rfl | (simp; done) | (rw [show nb - nb = 0 by omega]) | (unfold offA; rw [if_neg (by omega)]), by simp, rfl, by simp, by rw [HNX.out.2, HXL.out]; simp, by rw [List.length_append]; rw [HNX.out.1] at HBY9; exact HBY9.out, by rw [offA_block]; exact HBL.out, HQ9.out, HSO.out.snoc ⟨HSP.out.1, HSP.out.2.1, HSP.out.2.2.1, HSP.out.2.2.2⟩, .inr (by simp; have := HNB.out; omega), HK9.out⟩

        · have hnp1 := Nat.le_of_eq hnp
          have hnp2 := Nat.le_of_eq hnp.symm
          clear hnp
          have hkv : p = if nb ≤ p then nb else p := by rw [if_pos (by omega)]; omega
          have hoff := offA_eq ab cb p
          have hz1 : ((p : Int) ≤ (nb : Int)) := by omega
          have hz2 : (0 : Int) ≤ (p : Int) := by omega
          have hz3 : (p : Int) ≤ (cb : Int) := by have := HBY.out.2.le; omega
          have hz4 : (p : Int) ≤ (nb : Int) := by omega
          have hz5 : (nb : Int) ≤ (cb : Int) := by have := HBY.out.2.le; omega
          have hz6 : ((p : Int) == (nb : Int)) = true := by simp; omega
          have hnx := drop_next p ys l.length nb p (by rw [← HXL.out]; exact HNB.out) hkv
          have hsp := sp_next st en p ys l.length nb none 0 p 4 HL1.out (by rw [← HXL.out]; exact HNB.out) (by omega) hkv (by rw [if_pos (by omega)])
          have HNX := Lib.hid hnx
          have HSP := Lib.hid hsp
          clear hnx hsp hkv
          go_wp2_with (at_builtin; refine halt ?_)
          refine Halted.go (wpList_copy8 _ rfl _ rfl _ p _ ((ys.drop (l.length * p)).take p) rfl (By.pre (n := nb) HBY.out (by omega)) (by omega) ?_)
          intro a6 c6 w6 ho6 hk6
          have hq6 := HQO.out.keep (below_no hk6) (fun _ h => False.elim h)
          have HBY6 := Lib.hid (HBY.out.keep (below_no hk6) (fun _ _ h => h))
          have HK6 := Lib.hid (HK.out.trans (hk6.mono HK.out.size))
          have HS6 : Hid (wr.heap.size ≤ w6.heap.size) := hk6.size
          have hka : Keeps (fun _ => False) w6 (w6.alloc (.cells #[.int .u8 9, .int .u8 4, .int .u32 st, .slice a6 p c6] 33 (0, 0))) := (Keeps.refl _ w6).alloc _
          have hkb : Keeps (fun _ => False) w6 ((w6.alloc (.cells #[.int .u8 9, .int .u8 4, .int .u32 st, .slice a6 p c6] 33 (0, 0))).alloc (.cells #[.int .u8 9, .int .u8 4, .int .u32 st, .slice a6 p c6] 33 (0, 0))) := hka.alloc _
          have HQ8 := Lib.hid (hq6.keep hkb (fun _ h => False.elim h))
          have HBY8 := Lib.hid (HBY6.out.keep hkb (fun _ _ h => h))
          have HY8 := Lib.hid (ho6.by.keep hkb (fun _ _ h => h))
          have HG6 : Hid (∀ b, a6.map (·.block) = some b → wr.heap.size ≤ b ∧ b < w6.heap.size) := fun b hb => ho6.ge b hb
          have hfb := Blk.new (w6.alloc (.cells #[.int .u8 9, .int .u8 4, .int .u32 st, .slice a6 p c6] 33 (0, 0))) #[.int .u8 9, .int .u8 4, .int .u32 st, .slice a6 p c6] 33
          rw [World.size_alloc] at hfb
          have HFB := Lib.hid hfb
          obtain ⟨⟨f0, f1, f2, f3⟩, _⟩ := fr_cells (Blk.new w6 #[.int .u8 9, .int .u8 4, .int .u32 st, .slice a6 p c6] 33)
          clear ho6 hk6 hq6 hka hkb hfb
          obtain ⟨i0, hi0, hi1, hi2, hi3⟩ := info_parts infoF
          have HI := Lib.hid hi0
          have HZ0 := Lib.hid hi1
          have HZ1 := Lib.hid hi2
          have HZ2 := Lib.hid hi3
          clear hi0 hi1 hi2 hi3
          go_wp2_with (at_builtin; refine halt ?_)
          refine Halted.go (wpList_app _ rfl _ _ 22 22 rfl w.heap.size 33 i0 _ 4 32 Try.underlying22 HI.out HZ0.out HZ1.out HZ2.out rfl ao l.length co (fqs l) rfl (.inl HQ8.out.1) (.slice (some ⟨w6.heap.size + 1, 0, none⟩) 1 1) rfl 1 [.int .u8 9, .int .u8 4, .int .u32 st, .slice a6 p c6] (src_blk HFB.out Try.underlying22 rfl (by simp [Value.oneCell'])) (by unfold maxLen; have := HLN.out; omega) (by have := HLN.out; omega) (by have := HK6.out.size; simp; omega) ?_)
          intro a9 c9 w9 _ hk9 hn9 hown9 _
          have HQ9 : Hid (Qo w.heap.size w9 a9 c9 (l ++ [⟨9, 4, st, a6, p, c6, (ys.drop (l.length * p)).take p⟩])) := Lib.hid (Qo.snoc (f := ⟨9, 4, st, a6, p, c6, (ys.drop (l.length * p)).take p⟩) HQ8.out hk9 hn9 (hown9 (by omega)) HY8.out (fun b hb => by
            have h1 := HG6.out b hb
            have h0 := HK.out.size
            refine ⟨by omega, by simp; omega, fun e => ?_⟩
            have h2 := own_ge HQO.out.1 b e
            omega))
          have HK9 := Lib.hid (Keeps.mine_below ((HK6.out.alloc (by have := HK6.out.size; omega) (.cells #[.int .u8 9, .int .u8 4, .int .u32 st, .slice a6 p c6] 33 (0, 0))).alloc (by have := HK6.out.size; simp; omega) (.cells #[.int .u8 9, .int .u8 4, .int .u32 st, .slice a6 p c6] 33 (0, 0))) hk9 (by have := HK6.out.size; simp; omega) (Nat.le_refl _))
          have HBY9 := Lib.hid ((HBY8.out.keep hk9 (fun b hb h => by have h1 := HLT.out b (by rw [← HBL.out]; exact hb); have h2 := h.1; omega)).from p (by omega))
          clear hk9 hn9 hown9 f0 f1 f2 f3
          go_wp2_with fail
          go_roundg (nb - p)
          case measure => omega
          case rel => exact ⟨offA ab cb p, nb - p, cb - p, a9, c9, l ++ [⟨9, 4, st, a6, p, c6, (ys.drop (l.length * p)).take p⟩], by first | rfl | (simp; done) | (rw [show nb - p = 0 by omega]) | (unfold offA; rw [if_neg (by omega)]), by simp, rfl, by simp, by rw [HNX.out.2, HXL.out]; simp, by rw [List.length_append]; rw [HNX.out.1] at HBY9; exact HBY9.out, by rw [offA_block]; exact HBL.out, HQ9.out, HSO.out.snoc ⟨HSP.out.1, HSP.out.2.1, HSP.out.2.2.1, HSP.out.2.2.2⟩, .inr (by simp; have := HNB.out; omega), HK9.out⟩

        · have hkv : p = if nb ≤ p then nb else p := by rw [if_neg (by omega)]
          have hoff := offA_eq ab cb p
          have hz1 : ((p : Int) ≤ (nb : Int)) := by omega
          have hz2 : (0 : Int) ≤ (p : Int) := by omega
          have hz3 : (p : Int) ≤ (cb : Int) := by have := HBY.out.2.le; omega
          have hz4 : (p : Int) ≤ (nb : Int) := by omega
          have hz5 : (nb : Int) ≤ (cb : Int) := by have := HBY.out.2.le; omega
          have hz6 : ((p : Int) == (nb : Int)) = false := by simp; omega
          have hnx := drop_next p ys l.length nb p (by rw [← HXL.out]; exact HNB.out) hkv
          have hsp := sp_next st en p ys l.length nb none 0 p 0 HL1.out (by rw [← HXL.out]; exact HNB.out) (by omega) hkv (by rw [if_neg (by omega)])
          have HNX := Lib.hid hnx
          have HSP := Lib.hid hsp
          clear hnx hsp hkv
          go_wp2_with (at_builtin; refine halt ?_)
          refine Halted.go (wpList_copy8 _ rfl _ rfl _ p _ ((ys.drop (l.length * p)).take p) rfl (By.pre (n := nb) HBY.out (by omega)) (by omega) ?_)
          intro a6 c6 w6 ho6 hk6
          have hq6 := HQO.out.keep (below_no hk6) (fun _ h => False.elim h)
          have HBY6 := Lib.hid (HBY.out.keep (below_no hk6) (fun _ _ h => h))
          have HK6 := Lib.hid (HK.out.trans (hk6.mono HK.out.size))
          have HS6 : Hid (wr.heap.size ≤ w6.heap.size) := hk6.size
          have hka : Keeps (fun _ => False) w6 (w6.alloc (.cells #[.int .u8 9, .int .u8 0, .int .u32 st, .slice a6 p c6] 33 (0, 0))) := (Keeps.refl _ w6).alloc _
          have hkb : Keeps (fun _ => False) w6 ((w6.alloc (.cells #[.int .u8 9, .int .u8 0, .int .u32 st, .slice a6 p c6] 33 (0, 0))).alloc (.cells #[.int .u8 9, .int .u8 0, .int .u32 st, .slice a6 p c6] 33 (0, 0))) := hka.alloc _
          have HQ8 := Lib.hid (hq6.keep hkb (fun _ h => False.elim h))
          have HBY8 := Lib.hid (HBY6.out.keep hkb (fun _ _ h => h))
          have HY8 := Lib.hid (ho6.by.keep hkb (fun _ _ h => h))
          have HG6 : Hid (∀ b, a6.map (·.block) = some b → wr.heap.size ≤ b ∧ b < w6.heap.size) := fun b hb => ho6.ge b hb
          have hfb := Blk.new (w6.alloc (.cells #[.int .u8 9, .int .u8 0, .int .u32 st, .slice a6 p c6] 33 (0, 0))) #[.int .u8 9, .int .u8 0, .int .u32 st, .slice a6 p c6] 33
          rw [World.size_alloc] at hfb
          have HFB := Lib.hid hfb
          obtain ⟨⟨f0, f1, f2, f3⟩, _⟩ := fr_cells (Blk.new w6 #[.int .u8 9, .int .u8 0, .int .u32 st, .slice a6 p c6] 33)
          clear ho6 hk6 hq6 hka hkb hfb
          obtain ⟨i0, hi0, hi1, hi2, hi3⟩ := info_parts infoF
          have HI := Lib.hid hi0
          have HZ0 := Lib.hid hi1
          have HZ1 := Lib.hid hi2
          have HZ2 := Lib.hid hi3
          clear hi0 hi1 hi2 hi3
          go_wp2_with (at_builtin; refine halt ?_)
          refine Halted.go (wpList_app _ rfl _ _ 22 22 rfl w.heap.size 33 i0 _ 4 32 Try.underlying22 HI.out HZ0.out HZ1.out HZ2.out rfl ao l.length co (fqs l) rfl (.inl HQ8.out.1) (.slice (some ⟨w6.heap.size + 1, 0, none⟩) 1 1) rfl 1 [.int .u8 9, .int .u8 0, .int .u32 st, .slice a6 p c6] (src_blk HFB.out Try.underlying22 rfl (by simp [Value.oneCell'])) (by unfold maxLen; have := HLN.out; omega) (by have := HLN.out; omega) (by have := HK6.out.size; simp; omega) ?_)
          intro a9 c9 w9 _ hk9 hn9 hown9 _
          have HQ9 : Hid (Qo w.heap.size w9 a9 c9 (l ++ [⟨9, 0, st, a6, p, c6, (ys.drop (l.length * p)).take p⟩])) := Lib.hid (Qo.snoc (f := ⟨9, 0, st, a6, p, c6, (ys.drop (l.length * p)).take p⟩) HQ8.out hk9 hn9 (hown9 (by omega)) HY8.out (fun b hb => by
            have h1 := HG6.out b hb
            have h0 := HK.out.size
            refine ⟨by omega, by simp; omega, fun e => ?_⟩
            have h2 := own_ge HQO.out.1 b e
            omega))
          have HK9 := Lib.hid (Keeps.mine_below ((HK6.out.alloc (by have := HK6.out.size; omega) (.cells #[.int .u8 9, .int .u8 0, .int .u32 st, .slice a6 p c6] 33 (0, 0))).alloc (by have := HK6.out.size; simp; omega) (.cells #[.int .u8 9, .int .u8 0, .int .u32 st, .slice a6 p c6] 33 (0, 0))) hk9 (by have := HK6.out.size; simp; omega) (Nat.le_refl _))
          have HBY9 := Lib.hid ((HBY8.out.keep hk9 (fun b hb h => by have h1 := HLT.out b (by rw [← HBL.out]; exact hb); have h2 := h.1; omega)).from p (by omega))
          clear hk9 hn9 hown9 f0 f1 f2 f3
          go_wp2_with fail
          go_roundg (nb - p)
          case measure => omega
          case rel => exact ⟨offA ab cb p, nb - p, cb - p, a9, c9, l ++ [⟨9, 0, st, a6, p, c6, (ys.drop (l.length * p)).take p⟩], by first | rfl | (simp; done) | (rw [show nb - p = 0 by omega]) | (unfold offA; rw [if_neg (by omega)]), by simp, rfl, by simp, by rw [HNX.out.2, HXL.out]; simp, by rw [List.length_append]; rw [HNX.out.1] at HBY9; exact HBY9.out, by rw [offA_block]; exact HBL.out, HQ9.out, HSO.out.snoc ⟨HSP.out.1, HSP.out.2.1, HSP.out.2.2.1, HSP.out.2.2.2⟩, .inr (by simp; have := HNB.out; omega), HK9.out⟩

      · have hn0 : nb = 0 := by omega
        have hz : decide ((0 : Int) < (nb : Int)) = false := by simp; omega
        go_wp2_with fail
        go_returns
        exact ⟨ao, co, l, rfl, HQO.out, HSO.out, HL1.out, by have := HNB.out; rw [← HXL.out]; omega, by rw [← HXL.out]; exact HLA.out, HK.out⟩


end Go.Proofs.Ytcfljnlfikkhaaa
