/- The walk of HuffLong. -/
import Derived.Test.YticdjfmebmblaaaHufQ
namespace Go.Proofs.Yticdjfmebmblaaa
open Go.RowKit Go.Deep

def lettersB : List UInt8 := [97, 101, 105, 111, 115, 116, 48, 49, 50]

theorem fill_step (k i : Nat) (x : UInt8) (h : i < k) : (List.replicate i x ++ List.replicate (k - i) 0).set i x = List.replicate (i + 1) x ++ List.replicate (k - (i + 1)) 0 := by
  apply List.ext_getElem
  · simp; omega
  · intro j h1 h2
    rw [List.getElem_set]
    simp only [List.getElem_append, List.length_replicate, List.getElem_replicate]
    by_cases e : i = j
    · subst e; simp
    · rw [if_neg e]
      by_cases hj : j < i
      · rw [dif_pos hj, dif_pos (by omega)]
      · rw [dif_neg hj, dif_neg (by omega)]

set_option maxRecDepth 100000 in
set_option maxHeartbeats 1600000 in
theorem walkHuffLong (w : World) (n : Int) (hn : (Lit.int .u8 n).wf = true) (c : Int) (hc : (Lit.int .u8 c).wf = true) :
    Calls Try.prog 7 #[.int .u8 n, .int .u8 c] w fun e w' => e = .returned (.bool true) ∧ Below w.heap.size w w' := by
  have hnb := wf_u8_iff hn
  have hcb := wf_u8_iff hc
  clear hn hc
  obtain ⟨k, hk⟩ : ∃ k : Nat, 4094 + n % 5 = (k : Int) := ⟨(4094 + n % 5).toNat, by omega⟩
  have hk1 : 4094 ≤ k ∧ k ≤ 4098 := by omega
  obtain ⟨r, hr⟩ : ∃ r : Nat, c % 9 = (r : Int) := ⟨(c % 9).toNat, by omega⟩
  have hr9 : r < 9 := by omega
  go_enter Try.func7, Try.ntmps7
  go_wp2_with fail
  refine (known_any w).mono ?_
  rintro e w1 ⟨rfl, hk1'⟩
  have HK := Lib.hid hk1'
  clear hk1'
  have HLET : Hid (∀ w : World, (Instr.index 9 (.string ⟨#[97, 101, 105, 111, 115, 116, 48, 49, 50]⟩) (.int .u8 (r : Int))).run Try.prog w = .ok (.int .u8 ((lettersB.getD r 0).toNat : Int)) w) := by
    have hcases : r = 0 ∨ r = 1 ∨ r = 2 ∨ r = 3 ∨ r = 4 ∨ r = 5 ∨ r = 6 ∨ r = 7 ∨ r = 8 := by omega
    intro w
    clear hr
    rcases hcases with rfl | rfl | rfl | rfl | rfl | rfl | rfl | rfl | rfl <;> kernel_rfl
  go_wp2_with (refine wpList_make8 _ rfl _ _ rfl k rfl rfl (by omega) ?_; intro w2 ho2 hk2; refine halt ?_)
  have HO2 := Lib.hid ho2
  have HK2 := Lib.hid (HK.out.trans (hk2.mono HK.out.size))
  obtain ⟨b, hb⟩ : ∃ b, b = w1.heap.size := ⟨_, rfl⟩
  rw [← hb] at HO2
  have hbs : w.heap.size ≤ b := by rw [hb]; exact HK.out.size
  rw [← hb]
  clear ho2 hk2 HK hb
  refine Halted.go ?_
  generalize lettersB.getD r 0 = x at *
  go_wp2_with fail
  go_loopg [7] k (fun g vi wr => ∃ i : Nat, g + i = k ∧ vi = .int .i64 i ∧ Bo b wr (some ⟨b, 0, none⟩) k k (List.replicate i x ++ List.replicate (k - i) 0) ∧ Below w.heap.size w wr)
  case atStart => exact ⟨0, rfl, rfl, by simpa using HO2.out, HK2.out⟩
  case round =>
    obtain ⟨i, hi, rfl, ho, hkr⟩ := hrel
    have HI := Lib.hid hi
    have HO := Lib.hid ho
    have HKR := Lib.hid hkr
    clear hi ho hkr
    by_cases hlt : i < k
    · obtain ⟨g0, hg0, _, _, hcell, hfro⟩ := HO.out.row (by omega)
      cases hg0
      obtain ⟨v, c1⟩ : ∃ v, wr.cell? ⟨b, i, none⟩ = some v := ⟨_, hcell i (by simp; omega)⟩
      have c2 := hfro i
      clear hcell hfro
      have hset := HO.out.set i hlt x
      rw [fill_step k i x hlt] at hset
      have HS := Lib.hid hset
      clear hset
      have HKS := Lib.hid (Keeps.below HKR.out ((Keeps.refl (fun k => k = b) wr).put i (B x)) HKR.out.size (fun k h => by omega))
      have hix := HLET.out
      have hr0 : (0 : Int) ≤ (r : Int) := by omega
      obtain ⟨g, rfl⟩ : ∃ g, gk = g + 1 := ⟨gk - 1, by have := HI.out; omega⟩
      go_wp2_with (go_roundg g; (case measure => omega); (case rel => exact ⟨i + 1, by have := HI.out; omega, by go_num, HS.out, HKS.out⟩))
    · obtain rfl : i = k := by have := HI.out; omega
      have ho2 := HO.out
      rw [Nat.sub_self, List.replicate_zero, List.append_nil] at ho2
      have HO3 := Lib.hid ho2
      have hlen : (List.replicate i x).length = i := List.length_replicate
      obtain ⟨ys, hys⟩ : ∃ ys, ys = List.replicate i x := ⟨_, rfl⟩
      rw [← hys] at HO3 hlen
      have HYL := Lib.hid hlen
      have hdec := dec_enc ys
      rw [hlen] at hdec
      have HD := Lib.hid hdec
      clear HO HLET HO2 HK2 HI hlt ho2 hys hlen hdec
      go_wp2_with fail
      refine By.upon HO3.out.by ?_
      go_wp2_with fail
      refine (encode_any none 0 0 [] ⟨ys.toArray⟩ wr (By.nil _) (by omega) (by show ys.toArray.size ≤ _; rw [List.size_toArray, HYL.out]; omega)).mono ?_
      rintro e w4 ⟨a4, c4, rfl, ho4, hk4⟩
      have hen : (⟨ys.toArray⟩ : ByteArray).data.toList = ys := rfl
      rw [hen] at ho4 ⊢
      simp only [List.nil_append, Nat.zero_add] at ho4 ⊢
      have HO4 := Lib.hid ho4
      have HK4 := Lib.hid (HKR.out.trans (hk4.mono HKR.out.size))
      have HB4 := Lib.hid (HO3.out.keep (Below.keeps hk4) (fun q hq => by have := (HO3.out.ge q hq).2; omega))
      have hsz := encT_le ys ys.length
      have hsz2 : sizeN ys ≤ 1000000 := by unfold sizeN; rw [HYL.out] at hsz ⊢; omega
      clear hk4 ho4 hen hsz HO3 HKR
      go_wp2_with fail
      refine (decode_any a4 (sizeN ys) c4 (encN ys) w4 HO4.out.by hsz2 (fun q hq => (HO4.out.ge q hq).2)).mono ?_
      rintro e w5 ⟨rfl, hk5⟩
      have HK5 := Lib.hid (HK4.out.trans (hk5.mono HK4.out.size))
      have HB5 := Lib.hid (HB4.out.keep (Below.keeps hk5) (fun q hq => by have := (HB4.out.ge q hq).2; omega))
      clear hk5 HB4 HK4 HO4
      by_cases hbig : i ≤ 4096
      · have hd := HD.out
        rw [if_pos hbig] at hd
        rw [hd]
        clear hd HD
        unfold ByteStr
        go_wp2_with fail
        refine By.upon HB5.out.by ?_
        go_wp2_with fail
        go_returns
        exact ⟨by simp, HK5.out⟩
      · have hd := HD.out
        rw [if_neg hbig] at hd
        rw [hd]
        clear hd HD
        unfold ByteStr
        go_wp2_with fail
        go_returns
        exact ⟨by simp, HK5.out⟩

end Go.Proofs.Yticdjfmebmblaaa
