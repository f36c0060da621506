/- Bits and Len of the package huff. -/
import Derived.Test.YticdjfmebmblaaaHufE
namespace Go.Proofs.Yticdjfmebmblaaa
open Go.RowKit Go.Deep

set_option maxHeartbeats 800000 in
theorem bits_any (c : Nat) (hc : c < 256) (w : World) : Calls Try.prog 17 #[.int .u8 (c : Int)] w fun e w' => e = .returned (.tuple #[.int .u32 ((codeN c : Nat) : Int), .int .i64 ((lenN c : Nat) : Int)]) ∧ Below w.heap.size w w' := by
  have hg := Cs_get prL c (by rw [prL, prS_length]; omega)
  rw [prL_get c (by omega)] at hg
  have hi2 := fun (k : IntKind) (w : World) => run_index_two (P := Try.prog) _ _ _ Try.underlying46 _ Try.underlying45 (by kernel_rfl) (Cs prL) c (by omega) _ _ hg.1 hg.2 k w
  clear hg
  generalize codeN c = x at *
  generalize lenN c = y at *
  go_enter Try.func17, Try.ntmps17
  go_wp2_with fail
  refine (codes_any _).mono ?_
  rintro e w1 ⟨rfl, hk⟩
  have HK := Lib.hid hk
  clear hk
  unfold codesV
  go_wp2_with fail
  go_quiet (fail)
  go_wp2_with fail
  go_returns
  exact ⟨rfl, Below.drewN' (below_new HK.out _) _⟩

theorem encT_le (s : List UInt8) (j : Nat) : encT s j ≤ 30 * j := by
  induction j with
  | zero => exact Nat.le_refl _
  | succ j ih =>
    have := (code_ok _ (u8_lt (s.getD j 0))).2.1
    show encT s j + _ ≤ _
    omega

set_option maxHeartbeats 1600000 in
theorem len_any (s : ByteArray) (w : World) (hs : s.size ≤ 1000000) : Calls Try.prog 12 #[.string s] w fun e w' => e = .returned (.int .i64 ((sizeN s.data.toList : Nat) : Int)) ∧ Below w.heap.size w w' := by
  obtain ⟨hz, hi⟩ := zero_of_info info_l
  have g1 : (Try.prog.info? 49).map (·.size) = some (Ns .u8 lenL).size := by rw [hi, Ns_size, lenL_length]
  have G1 := Lib.hid g1
  clear hi g1
  go_enter Try.func12, Try.ntmps12
  go_wp2_with fail
  refine (lengths_any _).mono ?_
  rintro e w1 ⟨rfl, hk⟩
  have HK := Lib.hid hk
  clear hk
  unfold lenV
  go_wp2_with (refine wpList_store_blk rfl 49 _ _ rfl w1.heap.size (Ns .u8 lenL) rfl rfl _ _ (Blk.new w1 (zer .u8 257) _) G1.out (by rw [zer_size, Ns_size, lenL_length]) (Ns_all _ _) ?_; refine halt ?_)
  rw [World.setRow_alloc_new]
  have HL := Lib.hid (Blk.new w1 (Ns .u8 lenL) 49)
  have HK2 := Lib.hid (below_new HK.out (.cells (Ns .u8 lenL) 49 (0, 0)))
  clear hz HK G1
  generalize w1.alloc (.cells (Ns .u8 lenL) 49 (0, 0)) = w2 at *
  generalize w1.heap.size = b at *
  refine Halted.go ?_
  go_wp2_with fail
  go_loop [4, 9] (fun n i => ∃ j : Nat, j ≤ s.size ∧ i = .int .i64 j ∧ n = .int .i64 ((encT s.data.toList j : Nat) : Int)) (fun _ i => s.size - (intOf i).toNat)
  case atStart => exact ⟨0, Nat.zero_le _, rfl, rfl⟩
  case round =>
    obtain ⟨j, hj, rfl, rfl⟩ := hrel
    have htb := encT_le s.data.toList j
    by_cases hlt : j < s.size
    · have hx := u8_lt s[j]
      have hy := (code_ok _ hx).2.1
      have c1 : w2.cell? ⟨b, s[j].toNat, none⟩ = some (.int .u8 ((lenN s[j].toNat : Nat) : Int)) := by
        rw [HL.out.cell, Ns_get _ _ _ (by rw [lenL_length]; exact hx)]; rfl
      have hT : Hid (encT s.data.toList (j + 1) = encT s.data.toList j + lenN s[j].toNat) := by
        show encT s.data.toList j + _ = _
        congr 3
        simp [List.getD, hlt]
        rfl
      have hx0 : (0 : Int) ≤ (s[j].toNat : Int) := by omega
      have hx1 : (s[j].toNat : Int) < 257 := by omega
      generalize lenN s[j].toNat = y at *
      generalize encT s.data.toList j = t at *
      go_wp2_with fail
      go_round
      case rel => exact ⟨j + 1, by omega, by go_num, by rw [hT.out]; go_num⟩
      case measure => simp [intOf]; omega
    · obtain rfl : j = s.size := by omega
      clear hlt
      have hz : Hid (sizeN s.data.toList = (encT s.data.toList s.size + 7) / 8) := by show _ = _; simp [sizeN]
      generalize encT s.data.toList s.size = t at *
      go_wp2_with (go_returns; exact ⟨by rw [hz.out]; rfl, HK2.out⟩)

end Go.Proofs.Yticdjfmebmblaaa
