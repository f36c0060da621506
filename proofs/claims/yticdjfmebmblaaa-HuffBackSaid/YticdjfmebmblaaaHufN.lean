/- The reference's Unhuffman. -/
import Derived.Test.YticdjfmebmblaaaHufM
namespace Go.Proofs.Yticdjfmebmblaaa
open Go.RowKit Go.Deep

theorem or_bit32 {now bt : Nat} (h : now < 1073741824) (hb : bt < 2) : bits .or .u32 ((now : Int) * 2) (bt : Int) = ((2 * now + bt : Nat) : Int) := by
  have e : (now : Int) * 2 = ((2 * now : Nat) : Int) := by omega
  have hj : (2 * now) ||| bt = 2 * now + bt := nat_join1 _ _ (by omega) hb
  rw [e, u32_or_nat _ _ (by omega) (by omega), hj]
theorem and_bit32 {x : Nat} (k : Nat) (hx : x < 256) : bits .and .u32 ((x : Int) / 2 ^ k % 4294967296) 1 = ((x / 2 ^ k % 2 : Nat) : Int) := by
  have e0 : (x : Int) / 2 ^ k = ((x / 2 ^ k : Nat) : Int) := by rw [Int.natCast_ediv, cast_two_pow]
  have hd : x / 2 ^ k ≤ x := Nat.div_le_self _ _
  have e : (x : Int) / 2 ^ k % 4294967296 = ((x / 2 ^ k : Nat) : Int) := by
    rw [e0]
    generalize x / 2 ^ k = y at *
    omega
  rw [e, show (1 : Int) = ((1 : Nat) : Int) from rfl, u32_and_nat _ 1 (by omega) (by omega), Nat.and_one_is_mod]
theorem sgn_low (now n : Nat) (h : n < 5) : sgn now n = none := by
  have : cntN n = 0 := by
    have h5 : ∀ k, k < 5 → cntN k = 0 := by decide +kernel
    exact h5 n h
  unfold sgn
  rw [if_neg (by omega)]

set_option maxRecDepth 100000 in
set_option maxHeartbeats 6400000 in
theorem unhuff_any (a : Option Addr) (m cap : Nat) (xs : List UInt8) (w : World) (hb : By w a m cap xs) (hm : m ≤ 1000000) (hab : ∀ b, a.map (·.block) = some b → b < w.heap.size) :
    Calls Try.prog 15 #[.slice a m cap] w fun e w' => e = .returned (.tuple #[.string (ByteStr (decN xs).1), .int .i64 ((decN xs).2 : Nat)]) ∧ Below w.heap.size w w' := by
  have HB := Lib.hid hb
  have HAB := Lib.hid hab
  have HLEN := Lib.hid hb.1
  clear hb hab
  go_enter Try.func15, Try.ntmps15
  go_wp2_with fail
  refine (codesr_any _).mono ?_
  rintro e w3 ⟨o, rfl, hob, hbk, hk⟩
  have HO := Lib.hid hbk
  have HK := Lib.hid hk
  have HVO := Lib.hid hob
  clear hbk hk hob
  go_wp2_with fail
  go_loopg [5, 6, 7, 8, 9] (8 * m) (fun k vo vnow vn vones vi wr => ∃ (i now n : Nat) (ones : Bool) (out : List UInt8) (a' : Option Addr) (cap' : Nat), k + i = 8 * m ∧ vi = .int .i64 i ∧ vnow = .int .u32 now ∧ vn = .int .i64 n ∧ vones = .bool ones ∧ vo = .slice a' out.length cap' ∧ st xs i = .run now n ones out ∧
    Bo w.heap.size wr a' out.length cap' out ∧ Blk wr o (Cs prL) 39 ∧ Below w.heap.size w wr ∧ (∀ b, a'.map (·.block) = some b → b ≠ o))
  case atStart => exact ⟨0, 0, 0, true, [], none, 0, rfl, rfl, rfl, rfl, rfl, rfl, rfl, Bo.nil _ _, HO.out, HK.out, fun b h => by cases h⟩
  case round =>
    obtain ⟨i, now, n, ones, out, a2, c2, hi, rfl, rfl, rfl, rfl, rfl, hst, hbo, hbo2, hk, hn⟩ := hrel
    obtain ⟨hn30, hge, hnow, hol⟩ := st_inv xs i now n ones out hst
    have HI := Lib.hid hi
    have HST := Lib.hid hst
    have HBO := Lib.hid hbo
    have HBR := Lib.hid hbo2
    have HKR := Lib.hid hk
    have HN := Lib.hid hn
    clear hi hst hbo hbo2 hk hn hge
    have hp30 : 2 ^ n ≤ 2 ^ 29 := Nat.pow_le_pow_right (by omega) (by omega)
    have hnb : now < 536870912 := Nat.lt_of_lt_of_le hnow hp30
    clear hp30 hnow
    by_cases hlt : i < 8 * m
    · have hi8 : i / 8 < xs.length := by have := HLEN.out; omega
      obtain ⟨ab, ao, rfl, hab, hcell⟩ := (HB.out.below HKR.out HAB.out).get (by have := HLEN.out; omega)
      have d1 := hcell (i / 8) hi8
      clear hcell
      obtain ⟨x, hx⟩ : ∃ x : Nat, x = (xs[i / 8]'hi8).toNat := ⟨_, rfl⟩
      have hx256 : x < 256 := by rw [hx]; exact (xs[i / 8]'hi8).toNat_lt
      rw [← hx] at d1
      have hr8 : i % 8 < 8 := Nat.mod_lt _ (by omega)
      have hbt := bitAt_lt xs i
      have hbe : bitAt xs i = x / 2 ^ (7 - i % 8) % 2 := by
        unfold bitAt
        rw [hx]
        simp [List.getD, hi8]
      have hab1 := and_bit32 (7 - i % 8) hx256
      rw [← hbe] at hab1
      have hor1 := or_bit32 (now := now) (bt := bitAt xs i) (by omega) hbt
      have hst1 : st xs (i + 1) = (St.run now n ones out).step (bitAt xs i) := by rw [← HST.out]; rfl
      simp only [St.step] at hst1
      clear hx hbe
      generalize bitAt xs i = bt at *
      have hX32 : 2 * now + bt < 1073741824 := by omega
      have HS1 := Lib.hid hst1
      clear hst1
      generalize 2 * now + bt = X at *
      have HX32 := Lib.hid hX32
      have hbt0 : (0 : Int) ≤ (bt : Int) := by omega
      have hbt2 : (bt : Int) < 2 := by omega
      have hi0 : (0 : Int) ≤ (i : Int) := by omega
      have HDL : Hid (xs.length = m) := HLEN.out.symm
      obtain ⟨g, rfl⟩ : ∃ g, gk = g + 1 := ⟨gk - 1, by have := HI.out; omega⟩
      clear HO HK HST hX32 hi8 HB HAB
      by_cases h5 : n + 1 < 5
      · have HS2 := HS1.out
        rw [sgn_low _ _ h5] at HS2
        simp only at HS2
        have HS3 := Lib.hid HS2
        clear HS2 HS1
        have h5i : (n : Int) + 1 < 5 := by omega
        cases ones
        · go_wp2_with (go_roundg g; (case measure => omega); (case rel => exact ⟨i + 1, X, n + 1, _, out, a2, c2, by have := HI.out; omega, by go_num, rfl, by go_num, rfl, rfl, HS3.out, HBO.out, HBR.out, HKR.out, HN.out⟩))
        · go_wp2_with (go_roundg g; (case measure => omega); (case rel => exact ⟨i + 1, X, n + 1, _, out, a2, c2, by have := HI.out; omega, by go_num, rfl, by go_num, by rw [ones_eq], rfl, HS3.out, HBO.out, HBR.out, HKR.out, HN.out⟩))
      · have h5i : (5 : Int) ≤ (n : Int) + 1 := by omega
        cases hsg : sgn X (n + 1) with
        | none =>
          have HS2 := HS1.out
          rw [hsg] at HS2
          simp only at HS2
          have HS3 := Lib.hid HS2
          have HSI := Lib.hid (sgnI_none hsg)
          clear HS2 HS1 hsg h5
          cases ones
          · go_wp2_with (first | (go_at_call 21; refine (sign_any o X (n + 1) _ _ HBR.out (by omega) (by have := HX32.out; omega)).mono ?_; rintro e w' ⟨rfl, rfl⟩; rw [HSI.out]) | (go_roundg g; (case measure => omega); (case rel => exact ⟨i + 1, X, n + 1, _, out, a2, c2, by have := HI.out; omega, by go_num, rfl, by go_num, rfl, rfl, HS3.out, HBO.out, HBR.out, HKR.out, HN.out⟩)))
          · go_wp2_with (first | (go_at_call 21; refine (sign_any o X (n + 1) _ _ HBR.out (by omega) (by have := HX32.out; omega)).mono ?_; rintro e w' ⟨rfl, rfl⟩; rw [HSI.out]) | (go_roundg g; (case measure => omega); (case rel => exact ⟨i + 1, X, n + 1, _, out, a2, c2, by have := HI.out; omega, by go_num, rfl, by go_num, by rw [ones_eq], rfl, HS3.out, HBO.out, HBR.out, HKR.out, HN.out⟩)))
        | some sg =>
          have hsg257 := ((sgn_spec (by omega)).1 hsg).1
          have HS2 := HS1.out
          rw [hsg] at HS2
          simp only at HS2
          have HS3 := Lib.hid HS2
          have HSI := Lib.hid (sgnI_some hsg)
          clear HS2 HS1 hsg h5
          by_cases h256 : sg = 256
          · have hdec : decN xs = ([], 22) := by
              refine dec_huff (i := i + 1) ?_ (by have := HDL.out; omega)
              rw [HS3.out, if_pos h256]
            have HD := Lib.hid hdec
            subst h256
            clear hdec HS3
            cases ones
            all_goals
              go_wp2_with (first | (go_at_call 21; refine (sign_any o X (n + 1) _ _ HBR.out (by omega) (by have := HX32.out; omega)).mono ?_; rintro e w' ⟨rfl, rfl⟩; rw [HSI.out]) | (go_returns; refine halt ?_))
            all_goals
              refine Halted.go ?_
              rw [HD.out]
              exact ⟨⟨rfl, rfl⟩, HKR.out⟩
          · have hsg256 : sg < 256 := by omega
            have HBB := Lib.hid (B_of hsg256)
            have hsgI : (sg : Int) < 256 := by omega
            have hsg0 : (0 : Int) ≤ (sg : Int) := by omega
            have hne : ((sg : Int) == 256) = false := by simp; omega
            by_cases hfull : out.length = 4096
            · have hdec : decN xs = ([], 23) := by
                refine dec_long (i := i + 1) ?_ (by have := HDL.out; omega)
                rw [HS3.out, if_neg h256, if_pos hfull]
              have HD := Lib.hid hdec
              have hfl : (4096 : Int) ≤ (out.length : Int) := by omega
              clear hdec HS3 h256 hol hfull
              cases ones
              all_goals
                go_wp2_with (first | (go_at_call 21; refine (sign_any o X (n + 1) _ _ HBR.out (by omega) (by have := HX32.out; omega)).mono ?_; rintro e w' ⟨rfl, rfl⟩; rw [HSI.out]) | (go_returns; refine halt ?_))
              all_goals
                refine Halted.go ?_
                rw [HD.out]
                exact ⟨⟨rfl, rfl⟩, HKR.out⟩
            · have HS4 : Hid (st xs (i + 1) = .run 0 0 true (out ++ [UInt8.ofNat sg])) := by
                show _ = _
                rw [HS3.out, if_neg h256, if_neg hfull]
              have hfl : (out.length : Int) < 4096 := by omega
              clear HS3 h256 hfull
              cases ones
              all_goals
                go_wp2_with (first | (go_at_call 21; refine (sign_any o X (n + 1) _ _ HBR.out (by omega) (by have := HX32.out; omega)).mono ?_; rintro e w' ⟨rfl, rfl⟩; rw [HSI.out]) | (at_builtin; refine halt ?_))
              all_goals
                refine Halted.go (wpList_push8 wr rfl _ _ (UInt8.ofNat sg) _ HBB.out rfl w.heap.size a2 out.length c2 out rfl HBO.out.bd rfl (by omega) HKR.out.size ?_)
                intro a4 c4 w6 ho6 hk6 hf6
                have HO6 := Lib.hid (show Bo w.heap.size w6 a4 (out ++ [UInt8.ofNat sg]).length c4 (out ++ [UInt8.ofNat sg]) by rw [List.length_append]; exact ho6)
                have HLO : Hid ((out ++ [UInt8.ofNat sg]).length = out.length + 1) := by show _ = _; rw [List.length_append]; rfl
                have HK6 := Lib.hid (Keeps.below HKR.out hk6 HKR.out.size (fun k h => h.1))
                have HR6 := Lib.hid (hk6.blk HBR.out (fun h => HN.out _ h.2 rfl))
                have HN6 : Hid (∀ b, a4.map (·.block) = some b → b ≠ o) := by
                  intro b hb
                  rcases hf6 b hb with h | h
                  · rw [h] at hb; exact HN.out b hb
                  · have h2 := HBR.out.lt
                    omega
                clear ho6 hk6 hf6
                generalize out ++ [UInt8.ofNat sg] = out2 at *
                go_wp2_with (go_roundg g; (case measure => omega); (case rel => exact ⟨i + 1, 0, 0, true, out2, a4, c4, by have := HI.out; omega, by go_num, rfl, rfl, rfl, by rw [HLO.out], HS4.out, HO6.out, HR6.out, HK6.out, HN6.out⟩))
    · obtain rfl : i = 8 * m := by have := HI.out; omega
      have hdec : decN xs = (St.run now n ones out).fin := by
        unfold decN
        rw [← HLEN.out, HST.out]
      have HD := Lib.hid hdec
      clear hdec HO HK HST HI hlt
      by_cases h8 : 8 ≤ n
      · have hd2 : decN xs = ([], 22) := by rw [HD.out]; simp only [St.fin]; rw [if_pos (Or.inl h8)]
        have HD2 := Lib.hid hd2
        have h8i : (8 : Int) ≤ (n : Int) := by omega
        clear hd2 HD
        go_wp2_with (go_returns; refine halt ?_)
        refine Halted.go ?_
        rw [HD2.out]
        exact ⟨⟨rfl, rfl⟩, HKR.out⟩
      · have h8i : (n : Int) < 8 := by omega
        cases ones
        · have hd2 : decN xs = ([], 22) := by rw [HD.out]; simp [St.fin]
          have HD2 := Lib.hid hd2
          clear hd2 HD
          go_wp2_with (go_returns; refine halt ?_)
          refine Halted.go ?_
          rw [HD2.out]
          exact ⟨⟨rfl, rfl⟩, HKR.out⟩
        · have hd2 : decN xs = (out, 0) := by rw [HD.out]; simp only [St.fin]; rw [if_neg (by simp; omega)]
          have HD2 := Lib.hid hd2
          clear hd2 HD
          go_wp2_with fail
          refine By.upon HBO.out.by ?_
          go_wp2_with (go_returns; refine halt ?_)
          refine Halted.go ?_
          rw [HD2.out]
          exact ⟨⟨rfl, rfl⟩, HKR.out⟩

end Go.Proofs.Yticdjfmebmblaaa
