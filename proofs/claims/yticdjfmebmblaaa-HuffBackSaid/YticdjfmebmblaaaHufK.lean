/- The reference's Codes. -/
import Derived.Test.YticdjfmebmblaaaHufJ
namespace Go.Proofs.Yticdjfmebmblaaa
open Go.RowKit Go.Deep

set_option maxRecDepth 100000 in
set_option maxHeartbeats 3200000 in
theorem codesr_any (w : World) : Calls Try.prog 16 #[] w fun e w' => ∃ b, e = .returned (.slice (some ⟨b, 0, none⟩) 257 257) ∧ w.heap.size ≤ b ∧ Blk w' b (Cs prL) 39 ∧ Below w.heap.size w w' := by
  have hmk := make_codes
  obtain ⟨Z, hZ⟩ : ∃ Z, Z = Cs (List.replicate 257 (0, 0)) := ⟨_, rfl⟩
  rw [← hZ] at hmk
  have HZ := Lib.hid hZ
  clear hZ
  go_enter Try.func16, Try.ntmps16
  go_wp2_with fail
  refine (lengthsr_any _).mono ?_
  rintro e w1 ⟨rfl, rfl⟩
  go_wp2_with fail
  have HL := Lib.hid ((Blk.new w (Ns .i64 lenL) 3).alloc (.cells Z 39 (0, 0)))
  have hb := Blk.new (w.alloc (.cells (Ns .i64 lenL) 3 (0, 0))) Z 39
  rw [World.size_alloc] at hb
  have HB := Lib.hid hb
  have HK := Lib.hid (below_new (below_new (Below.refl w.heap.size w) (.cells (Ns .i64 lenL) 3 (0, 0))) (.cells Z 39 (0, 0)))
  clear hb hmk
  generalize (w.alloc (.cells (Ns .i64 lenL) 3 (0, 0))).alloc (.cells Z 39 (0, 0)) = w2 at *
  obtain ⟨b1, hb1⟩ : ∃ b1, b1 = w.heap.size := ⟨_, rfl⟩
  obtain ⟨b2, hb2⟩ : ∃ b2, b2 = w.heap.size + 1 := ⟨_, rfl⟩
  rw [← hb1] at HL
  rw [← hb2] at HB
  rw [← hb2, ← hb1]
  have hne : b1 ≠ b2 ∧ w.heap.size ≤ b2 := by omega
  have HNE := Lib.hid hne
  clear hb1 hb2 hne
  go_loopg [3, 4, 5] 26 (fun k vc vh vn wr => ∃ n m : Nat, k + n = 31 ∧ 5 ≤ n ∧ vn = .int .i64 n ∧ m = atN n ∧ m ≤ 257 ∧ vc = .int .u32 ((cM m : Nat) : Int) ∧ vh = .int .i64 ((hM m : Nat) : Int) ∧ Blk wr b2 (Cs (flS m)) 39 ∧ Keeps (fun k => k = b2) w2 wr)
  case atStart => exact ⟨5, 0, rfl, by omega, rfl, at_five.symm, by omega, rfl, rfl, by rw [flS_start, ← HZ.out]; exact HB.out, Keeps.refl _ _⟩
  case round =>
    obtain ⟨n, m, hk, hn5, rfl, hm, hm257, rfl, rfl, hbr, hkr⟩ := hrel
    have HN := Lib.hid hk
    have HM := Lib.hid hm
    have HBR := Lib.hid hbr
    have HKR := Lib.hid hkr
    clear hk hm hbr hkr
    by_cases hn30 : n < 31
    · have hni : (n : Int) ≤ 30 := by omega
      have HAS := Lib.hid (at_succ n hn30)
      go_wp2_with fail
      generalize wr = w3 at *
      obtain ⟨g, rfl⟩ : ∃ g, gk = g + 1 := ⟨gk - 1, by have := HN.out; omega⟩
      go_loopg [3, 4, 6] 257 (fun k vc vh vs wq => ∃ s q : Nat, k + s = 257 ∧ vs = .int .i64 s ∧ q = atN n + cj s n ∧ q ≤ 257 ∧ vc = .int .u32 ((cM q : Nat) : Int) ∧ vh = .int .i64 ((hM q : Nat) : Int) ∧ Blk wq b2 (Cs (flS q)) 39 ∧ Keeps (fun k => k = b2) w2 wq)
      case atStart => exact ⟨0, m, rfl, rfl, by rw [HM.out]; rfl, hm257, rfl, rfl, HBR.out, HKR.out⟩
      case round =>
        obtain ⟨s, q, hk, rfl, hq, hq257, rfl, rfl, hbq, hkq⟩ := hrel
        have HS := Lib.hid hk
        have HQ := Lib.hid hq
        have HBQ := Lib.hid hbq
        have HKQ := Lib.hid hkq
        clear hk hq hbq hkq
        by_cases hs : s < 257
        · have c1 : wr.cell? ⟨b1, s, none⟩ = some (.int .i64 ((lenN s : Nat) : Int)) := by
            rw [(HKQ.out.blk HL.out HNE.out.1).cell, Ns_get _ _ _ (by rw [lenL_length]; exact hs)]; rfl
          obtain ⟨g2, rfl⟩ : ∃ g2, gk = g2 + 1 := ⟨gk - 1, by have := HS.out; omega⟩
          have hs0 : (0 : Int) ≤ (s : Int) := by omega
          have hs257 : (s : Int) < 257 := by omega
          by_cases hl : lenN s = n
          · have hqr : q = rank s := by rw [HQ.out, rank, hl]
            have HQS : Hid (q + 1 = atN n + cj (s + 1) n) := by
              show _ = _
              rw [HQ.out]; simp only [cj]; rw [if_pos hl]; omega
            have hst := rank_step s hs
            have hset := flS_set s hs
            have hrk := rank_ok s hs
            rw [← hqr] at hst hset hrk
            have hg := Cs_get (flS q) s (by rw [flS_length]; exact hs)
            rw [Nat.mul_comm 2 s] at hg
            obtain ⟨v1, c3⟩ : ∃ v, wr.cell? ⟨b2, s * 2, none⟩ = some v := ⟨_, by rw [HBQ.out.cell, hg.1]⟩
            obtain ⟨v2, c4⟩ : ∃ v, wr.cell? ⟨b2, s * 2 + 1, none⟩ = some v := ⟨_, by rw [HBQ.out.cell, hg.2]⟩
            have c5 : wr.frozen? ⟨b2, s * 2, none⟩ = false := HBQ.out.free _
            have c6 : wr.frozen? ⟨b2, s * 2 + 1, none⟩ = false := HBQ.out.free _
            have hcs := Cs_set (flS q) s (codeN s) (lenN s) (by rw [flS_length]; exact hs)
            rw [hset, Nat.mul_comm 2 s, hl] at hcs
            have hcode : cM (q + 1) = codeN s := by
              unfold cM; rw [if_neg (by omega), Nat.add_sub_cancel, hrk.2]
            have hhad : hM (q + 1) = n := by
              unfold hM; rw [if_neg (by omega), Nat.add_sub_cancel, hrk.2, hl]
            have HCODE := Lib.hid hcode
            have HHAD := Lib.hid hhad
            have HB' := Lib.hid (((HBQ.out.set (s * 2) (.int .u32 (codeN s : Int))).set (s * 2 + 1) (.int .i64 (n : Int))).as hcs)
            have HK' := Lib.hid ((HKQ.out.put (s * 2) (.int .u32 (codeN s : Int))).put (s * 2 + 1) (.int .i64 (n : Int)))
            have hq1 : q + 1 ≤ 257 := by omega
            rw [hl] at c1 hst
            clear hset hrk hg hcs hcode hhad hqr hl
            by_cases hq0 : q = 0
            · subst hq0
              have hz := hst.1 rfl
              rw [hz] at HB' HK' HCODE
              clear hst hz
              have h1 : cM 0 = 0 := rfl
              have h2 : hM 0 = 0 := rfl
              rw [h1, h2]
              clear h1 h2
              go_wp2_with (go_roundg g2; (case measure => omega); (case rel => exact ⟨s + 1, 0 + 1, by have := HS.out; omega, by go_num, HQS.out, hq1, by rw [HCODE.out], by rw [HHAD.out], HB'.out, HK'.out⟩))
            · obtain ⟨t1, t2, t3, t4⟩ := hst.2 (by omega)
              have e1 : cM q = codeN (ordN (q - 1)) := by unfold cM; rw [if_neg hq0]
              have e2 : hM q = lenN (ordN (q - 1)) := by unfold hM; rw [if_neg hq0]
              rw [e1, e2]
              rw [t4] at HB' HK' HCODE
              have hcl : codeN s < 1073741824 := Nat.lt_of_lt_of_le (code_lt (by omega)) (show 2 ^ lenN s ≤ 2 ^ 30 from Nat.pow_le_pow_right (by omega) (code_ok s (by omega)).2.1)
              rw [t4] at hcl
              clear hst e1 e2 t4
              generalize codeN (ordN (q - 1)) = c at *
              generalize lenN (ordN (q - 1)) = h at *
              have ev : ∀ d, (c + 1) * 2 ^ d < 1073741824 → ((c : Int) + 1) * 2 ^ d % 4294967296 = (((c + 1) * 2 ^ d : Nat) : Int) := by
                intro d hd
                rw [← cast_two_pow, show ((c : Int) + 1) * ((2 ^ d : Nat) : Int) = (((c + 1) * 2 ^ d : Nat) : Int) by simp]
                omega
              have EV := Lib.hid ev
              clear ev
              have i1 : (0 : Int) < (h : Int) := by omega
              have i2 : (h : Int) ≤ (n : Int) := by omega
              go_wp2_with (go_roundg g2; (case measure => omega); (case rel => rw [EV.out (n - h) hcl]; exact ⟨s + 1, q + 1, by have := HS.out; omega, by go_num, HQS.out, hq1, by rw [HCODE.out], by rw [HHAD.out], HB'.out, HK'.out⟩))
          · have HQS : Hid (q = atN n + cj (s + 1) n) := by
              show _ = _
              rw [HQ.out]; simp only [cj]; rw [if_neg hl, Nat.add_zero]
            have hli : ((lenN s : Nat) : Int) ≠ (n : Int) := by omega
            have hlb : (((lenN s : Nat) : Int) != (n : Int)) = true := by simp; omega
            generalize lenN s = l at *
            go_wp2_with (go_roundg g2; (case measure => omega); (case rel => exact ⟨s + 1, q, by have := HS.out; omega, by go_num, HQS.out, hq257, rfl, rfl, HBQ.out, HKQ.out⟩))
        · obtain rfl : s = 257 := by have := HS.out; omega
          have HQ2 : Hid (q = atN (n + 1)) := by
            show _ = _
            rw [HQ.out, HAS.out]
          clear HQ hs HS
          go_wp2_with (go_roundg g; (case measure => omega); (case rel => exact ⟨n + 1, q, by have := HN.out; omega, by omega, by go_num, HQ2.out, hq257, rfl, rfl, HBQ.out, HKQ.out⟩))
    · obtain rfl : n = 31 := by have := HN.out; omega
      have hm2 : m = 257 := by rw [HM.out, at_end]
      subst hm2
      have HBF := Lib.hid (HBR.out.as (by rw [flS_end]))
      have HKF := Lib.hid (Keeps.below HK.out HKR.out HK.out.size (fun k h => by rw [h]; exact HNE.out.2))
      clear HM HBR HKR hn30 HN HL HB HK HZ
      go_wp2_with (go_returns; refine halt ?_)
      exact ⟨HNE.out.2, HBF.out, HKF.out⟩

end Go.Proofs.Yticdjfmebmblaaa
