/- The walk of HuffBits. -/
import Derived.Test.YticdjfmebmblaaaHufQ
namespace Go.Proofs.Yticdjfmebmblaaa
open Go.RowKit Go.Deep

theorem shr_bit {c : Nat} (k : Nat) (hc : c < 4294967296) : bits .and .u32 ((c : Int) / 2 ^ k) 1 = ((c / 2 ^ k % 2 : Nat) : Int) := by
  have e0 : (c : Int) / 2 ^ k = ((c / 2 ^ k : Nat) : Int) := by rw [Int.natCast_ediv, cast_two_pow]
  have hd : c / 2 ^ k ≤ c := Nat.div_le_self _ _
  rw [e0, show (1 : Int) = ((1 : Nat) : Int) from rfl, u32_and_nat _ 1 (by omega) (by omega), Nat.and_one_is_mod]

set_option maxRecDepth 100000 in
set_option maxHeartbeats 3200000 in
theorem walkHuffBits (w : World) (s : ByteArray) (hs0 : s.size ≤ maxLen) :
    Calls Try.prog 8 #[.string s] w fun e w' => e = .returned (.bool true) ∧ Below w.heap.size w w' := by
  unfold maxLen at hs0
  go_enter Try.func8, Try.ntmps8
  go_wp2_with fail
  refine (known_any w).mono ?_
  rintro e w1 ⟨rfl, hk1⟩
  have HK := Lib.hid hk1
  clear hk1
  by_cases h100 : 100 < s.size
  · go_wp2_with fail
    go_returns
    exact ⟨rfl, HK.out⟩
  · go_wp2_with fail
    refine (encode_any none 0 0 [] s w1 (By.nil _) (by omega) (by omega)).mono ?_
    rintro e w2 ⟨a2, c2, rfl, ho2, hk2⟩
    simp only [List.nil_append, Nat.zero_add] at ho2 ⊢
    have HO2 := Lib.hid ho2
    have HK2 := Lib.hid (HK.out.trans (hk2.mono HK.out.size))
    have htb := encT_le s.data.toList s.size
    have hszq := sizeN_eq s.data.toList
    rw [bytes_length] at hszq
    obtain ⟨z, hz⟩ : ∃ z, z = sizeN s.data.toList := ⟨_, rfl⟩
    rw [← hz] at HO2 ⊢
    have HZ := Lib.hid hz
    have hzb : z ≤ 400 := by rw [hz]; unfold sizeN; rw [bytes_length]; omega
    have HSQ := Lib.hid hszq
    clear ho2 hk2 HK htb hszq hz
    go_wp2_with fail
    go_loopg [4, 5] s.size (fun k va vi wr => ∃ i : Nat, k + i = s.size ∧ vi = .int .i64 i ∧ va = .int .i64 ((encT s.data.toList i : Nat) : Int) ∧ Bo w1.heap.size wr a2 z c2 (encN s.data.toList) ∧ Below w.heap.size w wr)
    case atStart => exact ⟨0, rfl, rfl, rfl, HO2.out, HK2.out⟩
    case round =>
      obtain ⟨i, hi, rfl, rfl, ho, hk⟩ := hrel
      have HI := Lib.hid hi
      have HO := Lib.hid ho
      have HK := Lib.hid hk
      clear hi ho hk
      by_cases hlt : i < s.size
      · have hx : s[i].toNat < 256 := s[i].toNat_lt
        have hlen := (code_ok _ (u8_lt s[i])).2.1
        have HTS : Hid (encT s.data.toList (i + 1) = encT s.data.toList i + lenN s[i].toNat) := by
          show encT s.data.toList i + _ = _
          rw [byte_get s i hlt]
        have HCB : Hid (∀ j, j < lenN s[i].toNat → encT s.data.toList i + j < 8 * z ∧ bitAt (encN s.data.toList) (encT s.data.toList i + j) = codeN s[i].toNat / 2 ^ (lenN s[i].toNat - 1 - j) % 2) := by
          intro j hj
          have := code_bit s.data.toList i j (by rw [bytes_length]; exact hlt) (by rw [byte_get s i hlt]; exact hj)
          rw [byte_get s i hlt, ← HZ.out] at this
          exact this
        have hcl : codeN s[i].toNat < 1073741824 := Nat.lt_of_lt_of_le (code_lt (u8_lt s[i])) (show 2 ^ lenN s[i].toNat ≤ 2 ^ 30 from Nat.pow_le_pow_right (by omega) hlen)
        go_wp2_with fail
        refine (bits_any s[i].toNat hx wr).mono ?_
        rintro e w5 ⟨rfl, hk5⟩
        have HO5 := Lib.hid (HO.out.keep (Below.keeps hk5) (fun b hb => by have := (HO.out.ge b hb).2; omega))
        have HK5 := Lib.hid (HK.out.trans (hk5.mono HK.out.size))
        clear hk5 HO HK
        generalize codeN s[i].toNat = c at *
        generalize lenN s[i].toNat = l at *
        generalize wr = wz at *
        obtain ⟨g, rfl⟩ : ∃ g, gk = g + 1 := ⟨gk - 1, by have := HI.out; omega⟩
        go_wp2_with fail
        go_loopg [4, 8] l (fun k va vk wr => ∃ j : Nat, k + j = l ∧ vk = .int .i64 ((l : Int) - 1 - (j : Int)) ∧ va = .int .i64 ((encT s.data.toList i + j : Nat) : Int) ∧ Bo w1.heap.size wr a2 z c2 (encN s.data.toList) ∧ Below w.heap.size w wr)
        case atStart => exact ⟨0, by omega, by simp, rfl, HO5.out, HK5.out⟩
        case round =>
          obtain ⟨j, hj, rfl, rfl, ho, hk⟩ := hrel
          have HJ := Lib.hid hj
          have HO := Lib.hid ho
          have HK := Lib.hid hk
          clear hj ho hk
          by_cases hjl : j < l
          · obtain ⟨b1, b2⟩ := HCB.out j hjl
            obtain ⟨p, hp⟩ : ∃ p, p = encT s.data.toList i + j := ⟨_, rfl⟩
            rw [← hp] at b1 b2 ⊢
            have HP := Lib.hid hp
            have hpl : p / 8 < (encN s.data.toList).length := by rw [← HO.out.1]; omega
            obtain ⟨gb, rfl, _, _, hcell, _⟩ := HO.out.row (by omega)
            have c1 := hcell (p / 8) hpl
            clear hcell hp
            obtain ⟨x, hx⟩ : ∃ x : Nat, x = ((encN s.data.toList)[p / 8]'hpl).toNat := ⟨_, rfl⟩
            have hx256 : x < 256 := by rw [hx]; exact ((encN s.data.toList)[p / 8]'hpl).toNat_lt
            rw [← hx] at c1
            have hbit : bitAt (encN s.data.toList) p = x / 2 ^ (7 - p % 8) % 2 := by
              unfold bitAt
              rw [hx]
              simp [List.getD, hpl]
            rw [hbit] at b2
            have q1 := and_bit32 (7 - p % 8) hx256
            rw [b2] at q1
            have q2 := shr_bit (c := c) (l - 1 - j) (by omega)
            have Q1 := Lib.hid q1
            have Q2 := Lib.hid q2
            clear q1 q2 hbit b2 hx
            have e1 : (l : Int) - 1 - (j : Int) = ((l - 1 - j : Nat) : Int) := by omega
            rw [e1]
            have e2 : ((l - 1 - j : Nat) : Int) - 1 = (l : Int) - 1 - ((j + 1 : Nat) : Int) := by omega
            have E2 := Lib.hid e2
            clear e1 e2
            obtain ⟨kk, hkk⟩ : ∃ kk, kk = l - 1 - j := ⟨_, rfl⟩
            rw [← hkk] at Q1 Q2 E2 ⊢
            have hk30 : kk ≤ 30 := by omega
            clear hkk
            have hp0 : (0 : Int) ≤ (p : Int) := by omega
            have hp1 : (p : Int) < 3200 := by omega
            have hk0 : (0 : Int) ≤ (kk : Int) := by omega
            have hk31 : (kk : Int) ≤ 30 := by omega
            have hr8 : p % 8 < 8 := Nat.mod_lt _ (by omega)
            have hpz : (p : Int) / 8 < (z : Int) := by omega
            have HO9 := Lib.hid HO.out
            go_wp2_with fail
            go_quiet (fail)
            have hbb : (bits .and .u32 ((x : Int) / 2 ^ (7 - p % 8) % 4294967296) 1 != bits .and .u32 ((c : Int) / 2 ^ kk) 1) = false := by
              rw [Q1.out, Q2.out]
              simp
            obtain ⟨g2, rfl⟩ : ∃ g2, gk = g2 + 1 := ⟨gk - 1, by have := HJ.out; omega⟩
            have HOD : Hid (Bo w1.heap.size (wr.drewN nq) (some ⟨gb, 0, none⟩) z c2 (encN s.data.toList)) := HO9.out.keep (S := fun _ => False) ((Keeps.refl _ _).drewN nq) (fun _ _ h => h)
            have HKD := Lib.hid (Below.drewN' HK.out nq)
            clear HO HO9 HK
            go_wp2_with (go_roundg g2; (case measure => omega); (case rel => exact ⟨j + 1, by have := HJ.out; omega, by rw [E2.out], by rw [← Nat.add_assoc, ← HP.out]; go_num, HOD.out, HKD.out⟩))
          · obtain rfl : j = l := by have := HJ.out; omega
            have e1 : (j : Int) - 1 - (j : Int) = -1 := by omega
            rw [e1, ← HTS.out]
            clear e1 HTS HCB hjl
            go_wp2_with (go_roundg g; (case measure => omega); (case rel => exact ⟨i + 1, by have := HI.out; omega, by go_num, rfl, HO.out, HK.out⟩))
      · obtain rfl : i = s.size := by have := HI.out; omega
        have HPB : Hid (∀ j, encT s.data.toList s.size + j < 8 * z → bitAt (encN s.data.toList) (encT s.data.toList s.size + j) = 1) := by
          intro j hj
          have := pad_bit s.data.toList j (by rw [bytes_length, ← HZ.out]; exact hj)
          rw [bytes_length] at this
          exact this
        have hTz : encT s.data.toList s.size ≤ 8 * z := by rw [HZ.out]; have := HSQ.out; omega
        have HTZ := Lib.hid hTz
        clear hlt HI hTz
        generalize wr = wz at *
        obtain ⟨T, hT⟩ : ∃ T, T = encT s.data.toList s.size := ⟨_, rfl⟩
        rw [← hT] at HPB HTZ ⊢
        clear hT
        go_wp2_with fail
        go_loopg [4] (8 * z - T) (fun k va wr => ∃ q : Nat, k + q = 8 * z ∧ T ≤ q ∧ va = .int .i64 (q : Int) ∧ Bo w1.heap.size wr a2 z c2 (encN s.data.toList) ∧ Below w.heap.size w wr)
        case atStart => exact ⟨T, by have := HTZ.out; omega, Nat.le_refl _, rfl, HO.out, HK.out⟩
        case round =>
          obtain ⟨p, hp, hTp, rfl, ho, hk⟩ := hrel
          have HP := Lib.hid hp
          have HO := Lib.hid ho
          have HK := Lib.hid hk
          clear hp ho hk
          by_cases hpz : p < 8 * z
          · have b2 := HPB.out (p - T) (by omega)
            rw [show T + (p - T) = p by omega] at b2
            have hpl : p / 8 < (encN s.data.toList).length := by rw [← HO.out.1]; omega
            obtain ⟨gb, rfl, _, _, hcell, _⟩ := HO.out.row (by omega)
            have c1 := hcell (p / 8) hpl
            clear hcell
            obtain ⟨x, hx⟩ : ∃ x : Nat, x = ((encN s.data.toList)[p / 8]'hpl).toNat := ⟨_, rfl⟩
            have hx256 : x < 256 := by rw [hx]; exact ((encN s.data.toList)[p / 8]'hpl).toNat_lt
            rw [← hx] at c1
            have hbit : bitAt (encN s.data.toList) p = x / 2 ^ (7 - p % 8) % 2 := by
              unfold bitAt
              rw [hx]
              simp [List.getD, hpl]
            rw [hbit] at b2
            have q1 := and_bit (7 - p % 8) hx256
            rw [b2] at q1
            clear hbit b2 hx
            have hp0 : (0 : Int) ≤ (p : Int) := by omega
            have hp1 : (p : Int) < 3200 := by omega
            have hr8 : p % 8 < 8 := Nat.mod_lt _ (by omega)
            have hpz1 : (p : Int) / 8 < (z : Int) := by omega
            have hpz2 : (p : Int) < 8 * (z : Int) := by omega
            obtain ⟨g2, rfl⟩ : ∃ g2, gk = g2 + 1 := ⟨gk - 1, by have := HP.out; omega⟩
            go_wp2_with (go_roundg g2; (case measure => omega); (case rel => exact ⟨p + 1, by have := HP.out; omega, by omega, by go_num, HO.out, HK.out⟩))
          · obtain rfl : p = 8 * z := by have := HP.out; omega
            have HZ2 := Lib.hid HZ.out.symm
            clear hpz HP hTp HPB HTZ HSQ HZ
            go_wp2_with (first | (go_at_call 13; refine (lenr_any s _ (by omega)).mono ?_; rintro e w9 ⟨rfl, hk9⟩; rw [HZ2.out]; have HK9 := Lib.hid (HK.out.trans (hk9.mono HK.out.size)); clear hk9) | (go_returns; refine halt ?_))
            refine Halted.go ?_
            exact HK9.out

end Go.Proofs.Yticdjfmebmblaaa
