/- The walk of HuffBack. -/
import Derived.Test.YticdjfmebmblaaaHufQ
namespace Go.Proofs.Yticdjfmebmblaaa
open Go.RowKit Go.Deep

theorem huffr_full (a : Option Addr) (m : Nat) (xs : List UInt8) (s : ByteArray) (w : World) (hb : By w a m m xs) (hab : ∀ b, a.map (·.block) = some b → b < w.heap.size) (hm : m ≤ 1000000) (hs : s.size ≤ 1000000) (n : Nat) (hn : n = m + sizeN s.data.toList) :
    Calls Try.prog 11 #[.slice a m m, .string s] w fun e w' => ∃ a' cap', e = .returned (.slice a' n cap') ∧ By w' a' n cap' (xs ++ encN s.data.toList) ∧ Below w.heap.size w w' := by
  subst hn
  refine (huffr_any w.heap.size a m m xs s w hb.full (Nat.le_refl _) hab hm hs).mono ?_
  rintro e w' ⟨a', c', rfl, h1, h2, _⟩
  exact ⟨a', c', rfl, h1.by, Keeps.mine_below (Below.refl _ _) h2 (Nat.le_refl _) (Nat.le_refl _)⟩

theorem Bo.grow {base : Nat} {w w' : World} {a : Option Addr} {n cap : Nat} {xs : List UInt8} (h : Bo base w a n cap xs) (hk : Below w.heap.size w w') : Bo base w' a n cap xs :=
  h.keep (Below.keeps hk) (fun b hb => by have := (h.ge b hb).2; omega)

theorem By.tailOf {base : Nat} {w : World} {a : Option Addr} {n cap m : Nat} {xs ys : List UInt8} (h : Bo base w a (m + n) cap (xs ++ ys)) (hm : m = xs.length) :
    By w (if cap = m then a else a.map (·.add (m * 1))) n (cap - m) ys ∧ ∀ b, (if cap = m then a else a.map (·.add (m * 1))).map (·.block) = some b → b < w.heap.size := by
  have hn := h.1
  have h1 := h.by.sub m (m + n) (by omega) (Nat.le_refl _)
  rw [Nat.add_sub_cancel_left] at h1
  refine ⟨?_, ?_⟩
  · rw [hm, List.drop_left, List.take_of_length_le (by simp at hn; omega)] at h1
    rw [hm]
    exact h1
  · intro b hb
    refine (h.ge b ?_).2
    split at hb
    · exact hb
    · cases a with
      | none => cases hb
      | some a =>
        rw [← hb]
        simp [Addr.add]
        split <;> rfl

set_option maxRecDepth 100000 in
set_option maxHeartbeats 12800000 in
theorem walkHuffBack (w : World) (v0 : Value) (h0 : Arg Try.prog w 22 v0) (s : ByteArray) (hs0 : s.size ≤ maxLen) :
    Calls Try.prog 3 #[v0, .string s] w fun e w' => e = .returned (.bool true) ∧ Below w.heap.size w w' := by
  obtain ⟨a, m, cap, xs, rfl, hby, hkeep⟩ := h0.bytes
  have HKEEP := Lib.hid hkeep
  have HLT := Lib.hid (h0.lt Try.underlying22)
  have hcap := hby.2.le
  have hmax := hby.2.max
  unfold maxLen at hmax hs0
  have HM : Hid (m = xs.length) := hby.1
  clear hby hkeep h0
  go_enter Try.func3, Try.ntmps3
  go_wp2_with fail
  refine (known_any w).mono ?_
  rintro e w1 ⟨rfl, hk1⟩
  have HB := Lib.hid (HKEEP.out w1 hk1)
  have HK := Lib.hid hk1
  have hs1 := hk1.size
  clear hk1
  by_cases h100 : 100 < m
  · go_wp2_with fail
    go_returns
    exact ⟨rfl, HK.out⟩
  · by_cases h300 : 300 < s.size
    · go_wp2_with fail
      go_returns
      exact ⟨rfl, HK.out⟩
    · go_wp2_with fail
      refine By.upon HB.out ?_
      go_wp2_with fail
      refine (encode_any a m cap xs s w1 HB.out (by omega) (by omega)).mono ?_
      rintro e w2 ⟨a2, c2, rfl, ho2, hk2⟩
      have HCc : Hid (Bo w1.heap.size w2.drew a2 (m + sizeN s.data.toList) c2 (xs ++ encN s.data.toList)) := ho2.keep (S := fun _ => False) ((Keeps.refl _ _).drew) (fun _ _ h => h)
      have HKc := Lib.hid ((HK.out.trans (hk2.mono HK.out.size)).drew)
      obtain ⟨n2, hn2⟩ : ∃ n2, n2 = m + sizeN s.data.toList := ⟨_, rfl⟩
      rw [← hn2] at HCc ⊢
      have HN2 := Lib.hid hn2
      have htb := encT_le s.data.toList s.size
      have hsz : sizeN s.data.toList ≤ 2000 := by unfold sizeN; rw [bytes_length]; omega
      clear ho2 hk2 HK HB htb hn2
      go_wp2_with fail
      have hwn : IntKind.i64.wrap ((m : Int) + ((sizeN s.data.toList : Nat) : Int)) = (n2 : Int) := by
        have := HN2.out
        rw [IntKind.wrap_i64]
        omega
      go_region_with (first
        | (go_at_call 11; refine (huffr_full a m xs s _ (let h := HKEEP.out _ HKc.out; ⟨h.1, ⟨Nat.le_refl _, by unfold maxLen; omega, h.2.len, h.2.at_⟩⟩) (fun b hb => Nat.lt_of_lt_of_le (HLT.out b hb) HKc.out.size) (by omega) (by omega) n2 HN2.out).mono ?_; rintro e w9 ⟨a3, c3, rfl, hy3, hk9⟩; have HKn := Lib.hid (HKc.out.trans (hk9.mono HKc.out.size)); have HCn := Lib.hid (HCc.out.keep (Below.keeps hk9) (fun b hb => by have := (HCc.out.ge b hb).2; omega)); have HR := Lib.hid hy3; clear HKc HCc hk9 hy3; have HKc := HKn; have HCc := HCn; clear HKn HCn)
        | (go_at_call 12; refine (len_any s _ (by omega)).mono ?_; rintro e w9 ⟨rfl, hk9⟩; have HKn := Lib.hid (HKc.out.trans (hk9.mono HKc.out.size)); have HCn := Lib.hid (HCc.out.keep (Below.keeps hk9) (fun b hb => by have := (HCc.out.ge b hb).2; omega)); clear HKc HCc hk9; have HKc := HKn; have HCc := HCn; clear HKn HCn)
        | (go_at_call 13; refine (lenr_any s _ (by omega)).mono ?_; rintro e w9 ⟨rfl, hk9⟩; have HKn := Lib.hid (HKc.out.trans (hk9.mono HKc.out.size)); have HCn := Lib.hid (HCc.out.keep (Below.keeps hk9) (fun b hb => by have := (HCc.out.ge b hb).2; omega)); clear HKc HCc hk9; have HKc := HKn; have HCc := HCn; clear HKn HCn)
        | (with_reducible refine By.upon HCc.out.by ?_) | (with_reducible refine By.upon HR.out ?_) | (with_reducible refine By.upon (HKEEP.out _ HKc.out) ?_))
      all_goals (
        have hn2 := HN2.out
        have hdec := dec_enc s.data.toList
        rw [if_pos (by rw [bytes_length]; omega)] at hdec
        have HDE := Lib.hid hdec
        obtain ⟨ht1, ht2⟩ := By.tailOf (show Bo w1.heap.size _ a2 (m + sizeN s.data.toList) c2 (xs ++ encN s.data.toList) by rw [← hn2]; exact HCc.out) HM.out
        have HT1 := Lib.hid ht1
        have HT2 := Lib.hid ht2
        have hcl := HCc.out.by.2.le
        have hcm := HCc.out.by.2.max
        unfold maxLen at hcm
        clear ht1 ht2 hdec
        by_cases hc2 : c2 = m
        · have h1 := HT1.out
          have h2 := HT2.out
          rw [if_pos hc2] at h1 h2
          have H1 := Lib.hid h1
          have H2 := Lib.hid h2
          have hz : sizeN s.data.toList = 0 := by omega
          have hnm : n2 = m := by omega
          clear h1 h2 HT1 HT2 HN2 hn2 hwn
          subst hc2
          subst hnm
          rw [hz, Nat.sub_self] at H1
          go_wp2_with fail
          refine (decode_any _ _ _ (encN s.data.toList) _ H1.out (by omega) H2.out).mono ?_
          rintro e w8 ⟨rfl, hk8⟩
          rw [HDE.out]
          dsimp only
          rw [show ByteStr s.data.toList = s by unfold ByteStr; simp]
          have HK8 := Lib.hid (HKc.out.trans (hk8.mono HKc.out.size))
          clear hk8 hz
          go_wp2_with fail
          go_returns
          exact ⟨by simp, HK8.out⟩
        · have h1 := HT1.out
          have h2 := HT2.out
          rw [if_neg hc2] at h1 h2
          simp only [Nat.mul_one] at h1 h2
          have H1 := Lib.hid h1
          have H2 := Lib.hid h2
          have hn2i : (n2 : Int) - (m : Int) = ((sizeN s.data.toList : Nat) : Int) := by omega
          have hmn : (m : Int) ≤ (n2 : Int) := by omega
          clear h1 h2 HT1 HT2 HN2 hwn
          have hn2n : n2 - m = sizeN s.data.toList := by omega
          clear hn2
          go_wp2_with fail
          refine (decode_any _ _ _ (encN s.data.toList) _ H1.out (by omega) H2.out).mono ?_
          rintro e w8 ⟨rfl, hk8⟩
          rw [HDE.out]
          dsimp only
          rw [show ByteStr s.data.toList = s by unfold ByteStr; simp]
          have HK8 := Lib.hid (HKc.out.trans (hk8.mono HKc.out.size))
          clear hk8
          go_wp2_with fail
          go_returns
          exact ⟨by simp, HK8.out⟩)

end Go.Proofs.Yticdjfmebmblaaa
