/- The walk of HuffEnds. -/
import Derived.Test.YticdjfmebmblaaaHufQ
namespace Go.Proofs.Yticdjfmebmblaaa
open Go.RowKit Go.Deep

/-- The last byte ends with the ones that fill it up. -/
theorem enc_last (s : List UInt8) (z : Nat) (hz : z = sizeN s) (h0 : 0 < z) (hl : z - 1 < (encN s).length) : ((encN s)[z - 1]'hl).toNat % 2 ^ padN (encT s s.length) = 2 ^ padN (encT s s.length) - 1 := by
  have e : (encN s)[z - 1]'hl = topB (fullV s) (8 * sizeN s) (z - 1) := by simp [encN, topsB]
  have hp : padN (encT s s.length) ≤ 8 := by unfold padN; omega
  have hd : 2 ^ padN (encT s s.length) ∣ 256 := ⟨2 ^ (8 - padN (encT s s.length)), by rw [← Nat.pow_add, show padN (encT s s.length) + (8 - padN (encT s s.length)) = 8 by omega]⟩
  have h0' := Nat.two_pow_pos (padN (encT s s.length))
  rw [e]
  unfold topB
  rw [UInt8.toNat_ofNat', show 8 * sizeN s - 8 * (z - 1 + 1) = 0 by omega, Nat.pow_zero, Nat.div_one, show (2 : Nat) ^ 8 = 256 from rfl, Nat.mod_mod, Nat.mod_mod_of_dvd _ hd]
  unfold fullV
  rw [Nat.add_comm, Nat.add_mul_mod_self_right, Nat.mod_eq_of_lt (by omega)]

/-- What a byte is whose lowest p bits are written anew. -/
theorem fill_val {x f : Nat} (p : Nat) (hx : x < 256) (hf : f < 256) (hp : p ≤ 7) :
    bits .or .u8 (bits .andNot .u8 (x : Int) ((2 : Int) ^ p - 1)) (bits .and .u8 (f : Int) ((2 : Int) ^ p - 1)) = ((x - x % 2 ^ p + f % 2 ^ p : Nat) : Int) ∧ x - x % 2 ^ p + f % 2 ^ p < 256 := by
  have h0 := Nat.two_pow_pos p
  have h7 : 2 ^ p ≤ 2 ^ 7 := Nat.pow_le_pow_right (by omega) hp
  have hd : 2 ^ p ∣ 256 := ⟨2 ^ (8 - p), by rw [← Nat.pow_add, show p + (8 - p) = 8 by omega]⟩
  have hm : x - x % 2 ^ p = 2 ^ p * (x / 2 ^ p) := by have := Nat.div_add_mod x (2 ^ p); omega
  have hlt : x - x % 2 ^ p + 2 ^ p ≤ 256 := by
    obtain ⟨q, hq⟩ := hd
    have h1 : x / 2 ^ p < q := by
      rw [Nat.div_lt_iff_lt_mul h0]
      rw [hq, Nat.mul_comm] at hx
      exact hx
    have h2 : 2 ^ p * (x / 2 ^ p + 1) ≤ 2 ^ p * q := Nat.mul_le_mul_left _ h1
    rw [Nat.mul_add, Nat.mul_one] at h2
    omega
  have hfm := Nat.mod_lt f h0
  refine ⟨?_, by omega⟩
  have e1 : bits .andNot .u8 (x : Int) ((2 : Int) ^ p - 1) = ((x - x % 2 ^ p : Nat) : Int) := by
    rw [andNot8 p (by omega) (by omega) (by omega) rfl, Int.natCast_sub (Nat.mod_le _ _), Int.natCast_emod, cast_two_pow]
  have e2 : bits .and .u8 (f : Int) ((2 : Int) ^ p - 1) = ((f % 2 ^ p : Nat) : Int) := by
    rw [and8 p (by omega) (by omega) (by omega) rfl, Int.natCast_emod, cast_two_pow]
  have e3 : (((x - x % 2 ^ p : Nat) : Int)) % 2 ^ p = 0 := by
    rw [hm, ← cast_two_pow, ← Int.natCast_emod, Nat.mul_mod_right]
    rfl
  have e4 : ((f % 2 ^ p : Nat) : Int) < 2 ^ p := by rw [← cast_two_pow]; exact_mod_cast hfm
  rw [e1, e2, or8 p (by omega) (by omega) e3 (by omega) e4 (by omega)]
  simp

theorem mask_val (p : Nat) (hp : p ≤ 7) : ((2 : Int) ^ p - 1) % 256 = (2 : Int) ^ p - 1 := by
  have h0 := Nat.two_pow_pos p
  have h7 : 2 ^ p ≤ 2 ^ 7 := Nat.pow_le_pow_right (by omega) hp
  rw [← cast_two_pow]
  omega
theorem fill_and {f : Nat} (p : Nat) (hf : f < 256) (hp : p ≤ 7) : bits .and .u8 (f : Int) (((2 : Int) ^ p - 1) % 256) = ((f % 2 ^ p : Nat) : Int) := by
  rw [mask_val p hp, and8 p (by omega) (by omega) (by omega) rfl, Int.natCast_emod, cast_two_pow]
theorem fill_byte {x f : Nat} (p : Nat) (hx : x < 256) (hf : f < 256) (hp : p ≤ 7) :
    Value.int .u8 (bits .or .u8 (bits .andNot .u8 (x : Int) (((2 : Int) ^ p - 1) % 256)) (bits .and .u8 (f : Int) (((2 : Int) ^ p - 1) % 256))) = B (UInt8.ofNat (x - x % 2 ^ p + f % 2 ^ p)) := by
  obtain ⟨h1, h2⟩ := fill_val p hx hf hp
  rw [mask_val p hp, h1, B_of h2]
theorem same_byte {x f p : Nat} (h1 : x % 2 ^ p = 2 ^ p - 1) (h2 : f % 2 ^ p = 2 ^ p - 1) : x - x % 2 ^ p + f % 2 ^ p = x := by
  have := Nat.mod_le x (2 ^ p)
  omega

set_option maxRecDepth 100000 in
set_option maxHeartbeats 3200000 in
theorem walkHuffEnds (w : World) (s : ByteArray) (hs0 : s.size ≤ maxLen) (f0 : Int) (hf0 : (Lit.int .u8 f0).wf = true) (m0 : Int) (hm0 : (Lit.int .u8 m0).wf = true) :
    Calls Try.prog 6 #[.string s, .int .u8 f0, .int .u8 m0] w fun e w' => e = .returned (.bool true) ∧ Below w.heap.size w w' := by
  have hfb := wf_u8_iff hf0
  unfold maxLen at hs0
  clear hf0 hm0
  obtain ⟨f, rfl⟩ : ∃ f : Nat, f0 = (f : Int) := ⟨f0.toNat, by omega⟩
  go_enter Try.func6, Try.ntmps6
  go_wp2_with fail
  refine (known_any w).mono ?_
  rintro e w1 ⟨rfl, hk1⟩
  have HK := Lib.hid hk1
  clear hk1
  by_cases h100 : 100 < s.size
  · go_wp2_with fail
    go_returns
    exact ⟨rfl, HK.out⟩
  · go_wp2_with fail
    refine (encode_any none 0 0 [] s w1 (By.nil _) (by omega) (by omega)).mono ?_
    rintro e w2 ⟨a2, c2, rfl, ho2, hk2⟩
    simp only [List.nil_append, Nat.zero_add] at ho2 ⊢
    have HO2 := Lib.hid ho2
    have HK2 := Lib.hid (HK.out.trans (hk2.mono HK.out.size))
    obtain ⟨z, hz⟩ : ∃ z, z = sizeN s.data.toList := ⟨_, rfl⟩
    rw [← hz] at HO2 ⊢
    have HZ := Lib.hid hz
    have htb := encT_le s.data.toList s.size
    have hzb : z ≤ 400 := by rw [hz]; unfold sizeN; rw [bytes_length]; omega
    clear ho2 hk2 HK hz htb
    go_wp2_with fail
    go_loopg [8, 9] s.size (fun k va vi wr => ∃ i : Nat, k + i = s.size ∧ vi = .int .i64 i ∧ va = .int .i64 ((encT s.data.toList i : Nat) : Int) ∧ Bo w1.heap.size wr a2 z c2 (encN s.data.toList) ∧ Below w.heap.size w wr)
    case atStart => exact ⟨0, rfl, rfl, rfl, HO2.out, HK2.out⟩
    case round =>
      obtain ⟨i, hi, rfl, rfl, ho, hk⟩ := hrel
      have HI := Lib.hid hi
      have HO := Lib.hid ho
      have HK := Lib.hid hk
      have htb := encT_le s.data.toList i
      clear hi ho hk
      by_cases hlt : i < s.size
      · have hx : s[i].toNat < 256 := s[i].toNat_lt
        have hlen := (code_ok _ (u8_lt s[i])).2.1
        have HTS : Hid (encT s.data.toList (i + 1) = encT s.data.toList i + lenN s[i].toNat) := by
          show encT s.data.toList i + _ = _
          rw [byte_get s i hlt]
        go_wp2_with fail
        refine (bits_any s[i].toNat hx wr).mono ?_
        rintro e w5 ⟨rfl, hk5⟩
        have HO5 := Lib.hid (HO.out.keep (Below.keeps hk5) (fun b hb => by have := (HO.out.ge b hb).2; omega))
        have HK5 := Lib.hid (HK.out.trans (hk5.mono HK.out.size))
        clear hk5 HO HK
        generalize codeN s[i].toNat = c at *
        generalize lenN s[i].toNat = l at *
        obtain ⟨g, rfl⟩ : ∃ g, gk = g + 1 := ⟨gk - 1, by have := HI.out; omega⟩
        generalize encT s.data.toList i = t at *
        go_wp2_with (go_roundg g; (case measure => omega); (case rel => exact ⟨i + 1, by have := HI.out; omega, by go_num, by rw [HTS.out]; go_num, HO5.out, HK5.out⟩))
      · obtain rfl : i = s.size := by have := HI.out; omega
        have hsq := sizeN_eq s.data.toList
        rw [bytes_length, ← HZ.out] at hsq
        have hlast := enc_last s.data.toList z HZ.out
        rw [bytes_length] at hlast
        have HLAST := Lib.hid hlast
        have hdm := dec_more s.data.toList (by rw [bytes_length]; omega)
        have HDM := Lib.hid hdm
        have hde := dec_enc s.data.toList
        rw [if_pos (by rw [bytes_length]; omega)] at hde
        have HDE := Lib.hid hde
        have hp8 : padN (encT s.data.toList s.size) < 8 := by unfold padN; omega
        obtain ⟨p, hp⟩ : ∃ p, p = padN (encT s.data.toList s.size) := ⟨_, rfl⟩
        rw [← hp] at hsq hp8 HLAST
        have hpt : (8 : Int) * (z : Int) - ((encT s.data.toList s.size : Nat) : Int) = (p : Int) := by omega
        generalize encT s.data.toList s.size = T at *
        have hel := HO.out.1
        generalize wr = wz at *
        clear hlast hdm hde hlt HI hp hsq
        have HEL := Lib.hid hel
        clear hel
        go_wp2_with (at_builtin; refine halt ?_)
        refine Halted.go (wpList_copy8 wz rfl _ rfl a2 z c2 (encN s.data.toList) rfl HO.out.by (by omega) ?_)
        intro a3 c3 w3 ho3 hk3
        have HO3 := Lib.hid ho3
        have HK3 := Lib.hid (HK.out.trans (hk3.mono HK.out.size))
        have HSZ3 : Hid (wz.heap.size ≤ w3.heap.size) := hk3.size
        have HB3 := Lib.hid (HO.out.keep (Below.keeps hk3) (fun b hb => by have := (HO.out.ge b hb).2; omega))
        clear ho3 hk3
        go_wp2_with (at_builtin; refine halt ?_)
        refine Halted.go (wpList_push8 w3 rfl _ _ 255 _ rfl rfl wz.heap.size a3 z c3 (encN s.data.toList) rfl HO3.out.bd rfl (by omega) HSZ3.out ?_)
        intro a4 c4 w4 ho4 hk4 _
        have HO4 := Lib.hid ho4
        have HK4 := Lib.hid (Keeps.mine_below HK3.out hk4 HK3.out.size (by have := HK.out.size; exact this))
        have HB4 : Hid (Bo w1.heap.size w4 a2 z c2 (encN s.data.toList)) := HB3.out.keep hk4 (fun b hb h => by have := (HO.out.ge b hb).2; have := h.1; omega)
        have HS4 : Hid (wz.heap.size ≤ w4.heap.size) := Nat.le_trans HSZ3.out hk4.size
        clear ho4 hk4 HO3 HB3 HK3
        go_wp2_with fail
        refine (decode_any a4 (z + 1) c4 (encN s.data.toList ++ [255]) w4 HO4.out.by (by omega) (fun b hb => (HO4.out.ge b hb).2)).mono ?_
        rintro e w5 ⟨rfl, hk5⟩
        rw [HDM.out]
        unfold ByteStr
        have HK5 := Lib.hid (HK4.out.trans (hk5.mono HK4.out.size))
        have HB5 := Lib.hid (HB4.out.keep (Below.keeps hk5) (fun b hb => by have := (HB4.out.ge b hb).2; omega))
        clear hk5 HB4 HK4 HO4 HDM
        by_cases hp0 : p = 0
        · subst hp0
          go_wp2_with (go_returns; refine halt ?_)
          refine Halted.go ?_
          exact HK5.out
        · have hp1 : (0 : Int) < (p : Int) := by omega
          have hp7 : (p : Int) ≤ 7 := by omega
          have hz0 : 0 < z := by omega
          go_wp2_with (at_builtin; refine halt ?_)
          refine Halted.go (wpList_copy8 w5 rfl _ rfl a2 z c2 (encN s.data.toList) rfl HB5.out.by (by omega) ?_)
          intro a6 c6 w6 ho6 hk6
          have HK6 := Lib.hid (HK5.out.trans (hk6.mono HK5.out.size))
          obtain ⟨gb, rfl, hgb1, hgb2, hcell, hfro⟩ := ho6.row hz0
          have HO6 := Lib.hid ho6
          have hzl : z - 1 < (encN s.data.toList).length := by rw [← HEL.out]; omega
          have c1 := hcell (z - 1) hzl
          have c2' := hfro (z - 1)
          obtain ⟨x, hx⟩ : ∃ x : Nat, x = ((encN s.data.toList)[z - 1]'hzl).toNat := ⟨_, rfl⟩
          have hx256 : x < 256 := by rw [hx]; exact ((encN s.data.toList)[z - 1]'hzl).toNat_lt
          have hlx := HLAST.out hz0 hzl
          rw [← hx] at c1 hlx
          have HX := Lib.hid hx
          have HLX := Lib.hid hlx
          clear ho6 hk6 hcell hfro hx hlx
          have hzi : (0 : Int) ≤ (z : Int) - 1 := by omega
          have hzt : ((z : Int) - 1).toNat = z - 1 := by omega
          have hf256 : f < 256 := by omega
          have hbyte := fill_byte p hx256 hf256 (by omega)
          have HBY := Lib.hid hbyte
          have hset := HO6.out.set (z - 1) (by omega) (UInt8.ofNat (x - x % 2 ^ p + f % 2 ^ p))
          rw [← hbyte] at hset
          have HSET := Lib.hid hset
          have hks := Keeps.below HK6.out ((Keeps.refl (fun k => k = gb) w6).put (z - 1) (.int .u8 (bits .or .u8 (bits .andNot .u8 (x : Int) (((2 : Int) ^ p - 1) % 256)) (bits .and .u8 (f : Int) (((2 : Int) ^ p - 1) % 256))))) HK6.out.size (fun k h => by have := HK5.out.size; omega)
          have HKS := Lib.hid hks
          have hand := fill_and p hf256 (by omega)
          have HAND := Lib.hid hand
          have hmv : ((2 : Int) ^ p - 1) % 256 = ((2 ^ p - 1 : Nat) : Int) := by
            have h0 := Nat.two_pow_pos p
            rw [mask_val p (by omega), ← cast_two_pow]
            omega
          have HMV := Lib.hid hmv
          obtain ⟨ys, hys⟩ : ∃ ys, ys = (encN s.data.toList).set (z - 1) (UInt8.ofNat (x - x % 2 ^ p + f % 2 ^ p)) := ⟨_, rfl⟩
          rw [← hys] at HSET
          have HSAME : Hid (f % 2 ^ p = 2 ^ p - 1 → decN ys = (s.data.toList, 0)) := by
            intro hf
            rw [hys, same_byte HLX.out hf, HX.out, UInt8.ofNat_toNat, List.set_getElem_self, HDE.out]
          clear hbyte hset hks hand hmv hys HBY HX HLX
          go_wp2_with fail
          refine (decode_any (some ⟨gb, 0, none⟩) z c6 ys _ HSET.out.by (by omega) (fun b hb => (HSET.out.ge b hb).2)).mono ?_
          rintro e w7 ⟨rfl, hk7⟩
          have HK7 := Lib.hid (HKS.out.trans (hk7.mono HKS.out.size))
          have HO7 := Lib.hid (HSET.out.keep (Below.keeps hk7) (fun b hb => by have := (HSET.out.ge b hb).2; omega))
          clear hk7 HSET HKS
          go_wp2_with fail
          refine (unhuff_any (some ⟨gb, 0, none⟩) z c6 ys w7 HO7.out.by (by omega) (fun b hb => (HO7.out.ge b hb).2)).mono ?_
          rintro e w8 ⟨rfl, hk8⟩
          have HK8 := Lib.hid (HK7.out.trans (hk8.mono HK7.out.size))
          clear hk8 HK7 HO7
          by_cases hf : f % 2 ^ p = 2 ^ p - 1
          · rw [HSAME.out hf]
            dsimp only
            rw [show ByteStr s.data.toList = s by unfold ByteStr; simp]
            go_wp2_with (go_returns; refine halt ?_)
            all_goals (refine Halted.go ?_; exact HK8.out)
          · have hne : (bits .and .u8 (f : Int) (((2 : Int) ^ p - 1) % 256) != ((2 : Int) ^ p - 1) % 256) = true := by
              rw [HAND.out, HMV.out]
              simp
              exact_mod_cast hf
            go_wp2_with (go_returns; refine halt ?_)
            all_goals (refine Halted.go ?_; exact HK8.out)

end Go.Proofs.Yticdjfmebmblaaa
