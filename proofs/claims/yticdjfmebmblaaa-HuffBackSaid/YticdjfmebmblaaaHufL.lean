/- The reference's HuffLen and sign. -/
import Derived.Test.YticdjfmebmblaaaHufK
namespace Go.Proofs.Yticdjfmebmblaaa
open Go.RowKit Go.Deep

set_option maxHeartbeats 1600000 in
theorem lenr_any (s : ByteArray) (w : World) (hs : s.size ≤ 1000000) : Calls Try.prog 13 #[.string s] w fun e w' => e = .returned (.int .i64 ((sizeN s.data.toList : Nat) : Int)) ∧ Below w.heap.size w w' := by
  go_enter Try.func13, Try.ntmps13
  go_wp2_with fail
  refine (codesr_any _).mono ?_
  rintro e w2 ⟨b, rfl, hb, hbk, hk⟩
  have HC := Lib.hid hbk
  have HK2 := Lib.hid hk
  clear hbk hk
  go_wp2_with fail
  go_loop [4, 5] (fun n i => ∃ j : Nat, j ≤ s.size ∧ i = .int .i64 j ∧ n = .int .i64 ((encT s.data.toList j : Nat) : Int)) (fun _ i => s.size - (intOf i).toNat)
  case atStart => exact ⟨0, Nat.zero_le _, rfl, rfl⟩
  case round =>
    obtain ⟨j, hj, rfl, rfl⟩ := hrel
    have htb := encT_le s.data.toList j
    by_cases hlt : j < s.size
    · have hx := u8_lt s[j]
      have hy := (code_ok _ hx).2.1
      have hg := Cs_get prL s[j].toNat (by rw [prL, prS_length]; exact hx)
      rw [prL_get _ hx, Nat.mul_comm 2] at hg
      have c1 : w2.cell? ⟨b, s[j].toNat * 2 + 1, none⟩ = some (.int .i64 ((lenN s[j].toNat : Nat) : Int)) := by rw [HC.out.cell, hg.2]
      clear hg
      have hT : Hid (encT s.data.toList (j + 1) = encT s.data.toList j + lenN s[j].toNat) := by
        show encT s.data.toList j + _ = _
        rw [byte_get s j hlt]
      have hx0 : (0 : Int) ≤ (s[j].toNat : Int) := by omega
      have hx1 : (s[j].toNat : Int) < 257 := by omega
      generalize lenN s[j].toNat = y at *
      generalize encT s.data.toList j = t at *
      go_wp2_with fail
      go_round
      case rel => exact ⟨j + 1, by omega, by go_num, by rw [hT.out]; go_num⟩
      case measure => simp [intOf]; omega
    · obtain rfl : j = s.size := by omega
      clear hlt
      have hz : Hid (sizeN s.data.toList = (encT s.data.toList s.size + 7) / 8) := by show _ = _; rw [sizeN, bytes_length]
      generalize encT s.data.toList s.size = t at *
      go_wp2_with (go_returns; exact ⟨by rw [hz.out]; rfl, HK2.out⟩)

/-- What the reference finds. -/
def sgnI (now n : Nat) : Int := match sgn now n with
  | some s => (s : Int)
  | none => -1

theorem sgnI_some {now n s : Nat} (h : sgn now n = some s) : sgnI now n = (s : Int) := by unfold sgnI; rw [h]
theorem sgnI_none {now n : Nat} (h : sgn now n = none) : sgnI now n = -1 := by unfold sgnI; rw [h]

set_option maxHeartbeats 1600000 in
theorem sign_any (b now n : Nat) (t : TypeId) (w : World) (hb : Blk w b (Cs prL) t) (hn : n < 32) (hnow : now < 4294967296) :
    Calls Try.prog 21 #[.slice (some ⟨b, 0, none⟩) 257 257, .int .u32 (now : Int), .int .i64 (n : Int)] w fun e w' => e = .returned (.int .i64 (sgnI now n)) ∧ w = w' := by
  have HB := Lib.hid hb
  clear hb
  go_enter Try.func21, Try.ntmps21
  go_wp2_with fail
  go_loop [7] (fun i => ∃ j : Nat, j ≤ 257 ∧ i = .int .i64 j ∧ ∀ i, i < j → ¬ (lenN i = n ∧ codeN i = now)) (fun i => 257 - (intOf i).toNat)
  case atStart => exact ⟨0, Nat.zero_le _, rfl, fun i h => absurd h (Nat.not_lt_zero _)⟩
  case round =>
    obtain ⟨j, hj, rfl, hnot⟩ := hrel
    have HN := Lib.hid hnot
    clear hnot
    by_cases hlt : j < 257
    · have hg := Cs_get prL j (by rw [prL, prS_length]; exact hlt)
      rw [prL_get _ hlt, Nat.mul_comm 2] at hg
      have c1 : w.cell? ⟨b, j * 2, none⟩ = some (.int .u32 ((codeN j : Nat) : Int)) := by rw [HB.out.cell, hg.1]
      have c2 : w.cell? ⟨b, j * 2 + 1, none⟩ = some (.int .i64 ((lenN j : Nat) : Int)) := by rw [HB.out.cell, hg.2]
      clear hg
      have hj0 : (0 : Int) ≤ (j : Int) := by omega
      have hj1 : (j : Int) < 257 := by omega
      by_cases hl : lenN j = n
      · by_cases hc : codeN j = now
        · have hs : Hid (sgnI now n = (j : Int)) := sgnI_some ((sgn_spec hn).2 ⟨hlt, hl, hc⟩)
          rw [hc] at c1
          rw [hl] at c2
          clear hl hc HN
          go_wp2_with (go_returns; exact ⟨by rw [hs.out]; rfl, rfl⟩)
        · have HN2 : Hid (∀ i, i < j + 1 → ¬ (lenN i = n ∧ codeN i = now)) := by
            intro i hi h
            by_cases e : i = j
            · subst e; exact hc h.2
            · exact HN.out i (by omega) h
          rw [hl] at c2
          have hcb : (((codeN j : Nat) : Int) == (now : Int)) = false := by simp; omega
          clear hl hc HN
          generalize codeN j = c at *
          go_wp2_with fail
          go_round
          case rel => exact ⟨j + 1, by omega, by go_num, HN2.out⟩
          case measure => simp [intOf]; omega
      · have HN2 : Hid (∀ i, i < j + 1 → ¬ (lenN i = n ∧ codeN i = now)) := by
          intro i hi h
          by_cases e : i = j
          · subst e; exact hl h.1
          · exact HN.out i (by omega) h
        have hlb : (((lenN j : Nat) : Int) == (n : Int)) = false := by simp; omega
        clear hl HN
        generalize codeN j = c at *
        generalize lenN j = l at *
        go_wp2_with fail
        go_round
        case rel => exact ⟨j + 1, by omega, by go_num, HN2.out⟩
        case measure => simp [intOf]; omega
    · obtain rfl : j = 257 := by omega
      have hs : Hid (sgnI now n = -1) := by
        refine sgnI_none ?_
        cases h : sgn now n with
        | none => rfl
        | some s =>
          obtain ⟨h1, h2, h3⟩ := (sgn_spec hn).1 h
          exact absurd ⟨h2, h3⟩ (HN.out s h1)
      clear HN hlt
      go_wp2_with (go_returns; exact ⟨by rw [hs.out]; rfl, rfl⟩)

end Go.Proofs.Yticdjfmebmblaaa
