/- The walk of HuffJoins. -/
import Derived.Test.YticdjfmebmblaabHufO
namespace Go.Proofs.Yticdjfmebmblaab
open Go.RowKit Go.Deep

theorem encT_front (a b : List UInt8) (k : Nat) (hk : k ≤ a.length) : encT (a ++ b) k = encT a k := by
  induction k with
  | zero => rfl
  | succ k ih =>
    show encT (a ++ b) k + lenN ((a ++ b).getD k 0).toNat = encT a k + lenN (a.getD k 0).toNat
    rw [ih (by omega)]
    have : (a ++ b).getD k 0 = a.getD k 0 := by
      simp only [List.getD]
      rw [List.getElem?_append_left (by omega)]
    rw [this]
theorem encT_app (a b : List UInt8) (k : Nat) : encT (a ++ b) (a.length + k) = encT a a.length + encT b k := by
  induction k with
  | zero => exact encT_front a b a.length (Nat.le_refl _)
  | succ k ih =>
    show encT (a ++ b) (a.length + k) + lenN ((a ++ b).getD (a.length + k) 0).toNat = _ + (encT b k + lenN (b.getD k 0).toNat)
    have : (a ++ b).getD (a.length + k) 0 = b.getD k 0 := by
      simp only [List.getD]
      rw [List.getElem?_append_right (by omega), Nat.add_sub_cancel_left]
    rw [ih, this]
    omega
theorem size_join (a b : List UInt8) : sizeN (a ++ b) ≤ sizeN a + sizeN b := by
  unfold sizeN
  rw [List.length_append, encT_app]
  omega
theorem str_self (u : ByteArray) : ByteStr u.data.toList = u := by
  unfold ByteStr
  simp

set_option maxRecDepth 100000 in
set_option maxHeartbeats 3200000 in
theorem walkHuffJoins (w : World) (s : ByteArray) (hs : s.size ≤ 140737488351232) (t : ByteArray) (ht : t.size ≤ 140737488351232) :
    Calls Try.prog 3 #[.string s, .string t] w fun e w' => e = .returned (.bool true) ∧ Below w.heap.size w w' := by
  go_enter Try.func3, Try.ntmps3
  go_wp2_with fail
  refine (known_any w).mono ?_
  rintro e w1 ⟨rfl, hk1⟩
  have HK := Lib.hid hk1
  clear hk1
  by_cases h200 : 200 < s.size + t.size
  · have hi : (200 : Int) < (s.size : Int) + (t.size : Int) := by omega
    go_wp2_with fail
    go_returns
    exact ⟨rfl, HK.out⟩
  · have hi : (s.size : Int) + (t.size : Int) ≤ 200 := by omega
    have hi2 : s.size + t.size ≤ 200 := by omega
    obtain ⟨u, hu⟩ : ∃ u, s ++ t = u := ⟨_, rfl⟩
    have hus : u.size = s.size + t.size := by rw [← hu]; simp
    have hud : u.data.toList = s.data.toList ++ t.data.toList := by rw [← hu]; simp
    have HUS := Lib.hid hus
    have hj := size_join s.data.toList t.data.toList
    rw [← hud] at hj
    have HJN := Lib.hid hj
    have hu2 : u.size ≤ 200 := by omega
    clear hus hud hj
    go_wp2_with fail
    refine (encode_any none 0 0 [] u w1 (By.nil _) (by omega) (by omega)).mono ?_
    rintro e w2 ⟨a2, c2, rfl, ho2, hk2⟩
    simp only [List.nil_append, Nat.zero_add] at ho2 ⊢
    have HO2 := Lib.hid ho2
    have HK2 := Lib.hid (HK.out.trans (hk2.mono HK.out.size))
    have htb := encT_le u.data.toList u.size
    have hzb : sizeN u.data.toList ≤ 1000 := by unfold sizeN; rw [bytes_length]; omega
    have hde := dec_enc u.data.toList
    rw [if_pos (by rw [bytes_length]; omega)] at hde
    have HDE := Lib.hid hde
    clear ho2 hk2 HK hde htb
    go_wp2_with fail
    refine (decode_any a2 (sizeN u.data.toList) c2 (encN u.data.toList) w2 HO2.out.by (by omega) (fun b hb => (HO2.out.ge b hb).2)).mono ?_
    rintro e w3 ⟨rfl, hk3⟩
    have HK3 := Lib.hid (HK2.out.trans (hk3.mono HK2.out.size))
    rw [HDE.out]
    dsimp only
    rw [str_self]
    clear hk3 HK2 HO2 HDE hi
    go_wp2_with fail
    go_loopg [7, 8] u.size (fun k va vi wr => ∃ i : Nat, k + i = u.size ∧ vi = .int .i64 i ∧ va = .int .i64 ((encT u.data.toList i : Nat) : Int) ∧ Below w.heap.size w wr)
    case atStart => exact ⟨0, rfl, rfl, rfl, HK3.out⟩
    case round =>
      obtain ⟨i, hi, rfl, rfl, hk⟩ := hrel
      have HI := Lib.hid hi
      have HK := Lib.hid hk
      have htb := encT_le u.data.toList i
      clear hi hk
      by_cases hlt : i < u.size
      · have hx : u[i].toNat < 256 := u[i].toNat_lt
        have hlen := (code_ok _ (u8_lt u[i])).2.1
        have HTS : Hid (encT u.data.toList (i + 1) = encT u.data.toList i + lenN u[i].toNat) := by
          show encT u.data.toList i + _ = _
          rw [byte_get u i hlt]
        go_wp2_with fail
        refine (bits_any u[i].toNat hx wr).mono ?_
        rintro e w5 ⟨rfl, hk5⟩
        have HK5 := Lib.hid (HK.out.trans (hk5.mono HK.out.size))
        clear hk5 HK
        generalize codeN u[i].toNat = c at *
        generalize lenN u[i].toNat = l at *
        obtain ⟨g, rfl⟩ : ∃ g, gk = g + 1 := ⟨gk - 1, by have := HI.out; omega⟩
        generalize encT u.data.toList i = tt at *
        go_wp2_with (go_roundg g; (case measure => omega); (case rel => exact ⟨i + 1, by have := HI.out; omega, by go_num, by rw [HTS.out]; go_num, HK5.out⟩))
      · obtain rfl : i = u.size := by have := HI.out; omega
        have hsz : sizeN u.data.toList = (encT u.data.toList u.size + 7) / 8 := by unfold sizeN; rw [bytes_length]
        have hjn := HJN.out
        generalize encT u.data.toList u.size = T at *
        have HSZ := Lib.hid hsz
        have hsi : (sizeN u.data.toList : Int) = ((T : Int) + 7) / 8 := by rw [hsz]; simp
        have HSI := Lib.hid hsi
        have hji : ((T : Int) + 7) / 8 ≤ (sizeN s.data.toList : Int) + (sizeN t.data.toList : Int) := by omega
        have hsb := encT_le s.data.toList s.size
        have htb2 := encT_le t.data.toList t.size
        have hs1 : sizeN s.data.toList ≤ 1000 := by unfold sizeN; rw [bytes_length]; omega
        have ht1 : sizeN t.data.toList ≤ 1000 := by unfold sizeN; rw [bytes_length]; omega
        clear hlt HI hsz hjn HJN hsi hsb htb2 hzb
        go_wp2_with (go_at_call_of 8 #[Value.string u]; refine (len_any u _ (by omega)).mono ?_; rintro e w9 ⟨rfl, hk9⟩; rw [HSI.out]; have HKn := Lib.hid (HK.out.trans (hk9.mono HK.out.size)); clear HK hk9; have HK := HKn; clear HKn)
        refine (len_any s _ (by omega)).mono ?_
        rintro e w10 ⟨rfl, hk10⟩
        have HK10 := Lib.hid (HK.out.trans (hk10.mono HK.out.size))
        clear hk10
        go_wp2_with fail
        refine (len_any t _ (by omega)).mono ?_
        rintro e w11 ⟨rfl, hk11⟩
        have HK11 := Lib.hid (HK10.out.trans (hk11.mono HK10.out.size))
        clear hk11
        go_wp2_with (go_returns; refine halt ?_)
        refine Halted.go ?_
        exact HK11.out

end Go.Proofs.Yticdjfmebmblaab
