/- The walk of HuffCodes. -/
import Derived.Test.YticdjfmebmblaaaHufQ
namespace Go.Proofs.Yticdjfmebmblaaa
open Go.RowKit Go.Deep

/-- What the codes of the first j signs fill. -/
def kraft : Nat → Nat
  | 0 => 0
  | j + 1 => kraft j + 2 ^ (32 - lenN j)
theorem kraft_end : kraft 257 = 4294967296 := by decide +kernel
theorem kraft_le (j d : Nat) : kraft j ≤ kraft (j + d) := by
  induction d with
  | zero => exact Nat.le_refl _
  | succ d ih => exact Nat.le_trans ih (Nat.le_add_right _ _)
theorem kraft_lt (j : Nat) (h : j ≤ 257) : kraft j ≤ 4294967296 := by
  have := kraft_le j (257 - j)
  rwa [show j + (257 - j) = 257 by omega, kraft_end] at this
theorem shl_val (j : Nat) (h : j < 257) : IntKind.u64.wrap ((2 : Int) ^ (32 - lenN j)) = ((2 ^ (32 - lenN j) : Nat) : Int) := by
  have h2 : 2 ^ (32 - lenN j) ≤ 2 ^ 32 := Nat.pow_le_pow_right (by omega) (by omega)
  rw [IntKind.wrap_u64, ← cast_two_pow]
  generalize 2 ^ (32 - lenN j) = y at *
  omega

/-- No code begins another. -/
theorem no_prefix (c d : Nat) (hc : c < 257) (hd : d < 257) (hn : c ≠ d) (hl : lenN c ≤ lenN d) : codeN d / 2 ^ (lenN d - lenN c) ≠ codeN c := by
  intro h
  obtain ⟨_, _, h3, h4, _⟩ := code_ok c hc
  by_cases e : lenN c = lenN d
  · rw [e, Nat.sub_self, Nat.pow_zero, Nat.div_one] at h
    have h1 := (sgn_spec (now := codeN d) (n := lenN d) (s := c) (by have := (code_ok d hd).2.1; omega)).2 ⟨hc, e, h.symm⟩
    have h2 := (sgn_spec (now := codeN d) (n := lenN d) (s := d) (by have := (code_ok d hd).2.1; omega)).2 ⟨hd, rfl, rfl⟩
    rw [h1] at h2
    exact hn (Option.some.inj h2)
  · have := pre_ok d hd (lenN c) (by omega)
    omega

set_option maxRecDepth 100000 in
set_option maxHeartbeats 3200000 in
theorem walkHuffCodes (w : World) (c0 : Int) (hc0 : (Lit.int .u8 c0).wf = true) (d0 : Int) (hd0 : (Lit.int .u8 d0).wf = true) :
    Calls Try.prog 5 #[.int .u8 c0, .int .u8 d0] w fun e w' => e = .returned (.bool true) ∧ Below w.heap.size w w' := by
  have hcb := wf_u8_iff hc0
  have hdb := wf_u8_iff hd0
  clear hc0 hd0
  obtain ⟨c, rfl⟩ : ∃ c : Nat, c0 = (c : Int) := ⟨c0.toNat, by omega⟩
  obtain ⟨d, rfl⟩ : ∃ d : Nat, d0 = (d : Int) := ⟨d0.toNat, by omega⟩
  have hc : c < 256 := by omega
  have hd : d < 256 := by omega
  go_enter Try.func5, Try.ntmps5
  go_wp2_with fail
  refine (known_any w).mono ?_
  rintro e w1 ⟨rfl, hk1⟩
  have HK := Lib.hid hk1
  clear hk1
  go_wp2_with fail
  refine (codesr_any _).mono ?_
  rintro e w2 ⟨b, rfl, hb, hbk, hk⟩
  have HB := Lib.hid hbk
  have HK2 := Lib.hid (HK.out.trans (hk.mono HK.out.size))
  clear hbk hk HK
  go_wp2_with fail
  refine (bits_any c hc _).mono ?_
  rintro e w3 ⟨rfl, hk⟩
  have HB3 := Lib.hid ((Below.keeps hk).blk HB.out (by have := HB.out.lt; omega))
  have HK3 := Lib.hid (HK2.out.trans (hk.mono HK2.out.size))
  clear hk HK2 HB
  go_wp2_with fail
  refine (bits_any d hd _).mono ?_
  rintro e w4 ⟨rfl, hk⟩
  have HB4 := Lib.hid ((Below.keeps hk).blk HB3.out (by have := HB3.out.lt; omega))
  have HK4 := Lib.hid (HK3.out.trans (hk.mono HK3.out.size))
  clear hk HK3 HB3
  have hgc := Cs_get prL c (by rw [prL, prS_length]; omega)
  rw [prL_get _ (by omega), Nat.mul_comm 2] at hgc
  have hgd := Cs_get prL d (by rw [prL, prS_length]; omega)
  rw [prL_get _ (by omega), Nat.mul_comm 2] at hgd
  have d1 : w4.cell? ⟨b, c * 2, none⟩ = some (.int .u32 ((codeN c : Nat) : Int)) := by rw [HB4.out.cell, hgc.1]
  have d2 : w4.cell? ⟨b, c * 2 + 1, none⟩ = some (.int .i64 ((lenN c : Nat) : Int)) := by rw [HB4.out.cell, hgc.2]
  have d3 : w4.cell? ⟨b, d * 2, none⟩ = some (.int .u32 ((codeN d : Nat) : Int)) := by rw [HB4.out.cell, hgd.1]
  have d4 : w4.cell? ⟨b, d * 2 + 1, none⟩ = some (.int .i64 ((lenN d : Nat) : Int)) := by rw [HB4.out.cell, hgd.2]
  clear hgc hgd
  have HNP : Hid (c ≠ d → lenN c ≤ lenN d → codeN d / 2 ^ (lenN d - lenN c) ≠ codeN c) := fun h1 h2 => no_prefix c d (by omega) (by omega) h1 h2
  have hlc := (code_ok c (by omega)).2.1
  have hld := (code_ok d (by omega)).2.1
  have hcl : codeN d < 1073741824 := Nat.lt_of_lt_of_le (code_lt (show d < 257 by omega)) (show 2 ^ lenN d ≤ 2 ^ 30 from Nat.pow_le_pow_right (by omega) hld)
  generalize codeN c = x at *
  generalize codeN d = y at *
  generalize lenN c = n at *
  generalize lenN d = m at *
  have hc0 : (0 : Int) ≤ (c : Int) := by omega
  have hc1 : (c : Int) < 257 := by omega
  have hd0 : (0 : Int) ≤ (d : Int) := by omega
  have hd1 : (d : Int) < 257 := by omega
  go_wp2_with fail
  clear d1 d2 d3 d4
  go_loopg [10, 11] 257 (fun k vs vi wr => ∃ j : Nat, k + j = 257 ∧ vi = .int .i64 j ∧ vs = .int .u64 ((kraft j : Nat) : Int) ∧ w4 = wr)
  case atStart => exact ⟨0, rfl, rfl, rfl, rfl⟩
  case round =>
    obtain ⟨j, hj, rfl, rfl, rfl⟩ := hrel
    have HJ := Lib.hid hj
    clear hj
    by_cases hlt : j < 257
    · have hg := Cs_get prL j (by rw [prL, prS_length]; exact hlt)
      rw [prL_get _ hlt, Nat.mul_comm 2] at hg
      have e1 : w4.cell? ⟨b, j * 2 + 1, none⟩ = some (.int .i64 ((lenN j : Nat) : Int)) := by rw [HB4.out.cell, hg.2]
      clear hg
      have hlj := (code_ok j hlt).2.1
      have HSV := Lib.hid (shl_val j hlt)
      have hkl := kraft_lt (j + 1) (by omega)
      have HKS : Hid (kraft (j + 1) = kraft j + 2 ^ (32 - lenN j)) := rfl
      rw [HKS.out] at hkl
      have HV : Hid (IntKind.u64.wrap (((kraft j : Nat) : Int) + IntKind.u64.wrap ((2 : Int) ^ (32 - lenN j))) = ((kraft (j + 1) : Nat) : Int)) := by
        show _ = _
        rw [HSV.out, HKS.out, IntKind.wrap_u64]
        generalize 2 ^ (32 - lenN j) = y at *
        omega
      clear hkl HKS HSV
      have hj0 : (0 : Int) ≤ (j : Int) := by omega
      have hj1 : (j : Int) < 257 := by omega
      generalize lenN j = l at *
      have hl0 : (0 : Int) ≤ (l : Int) := by omega
      have hl1 : (l : Int) ≤ 30 := by omega
      obtain ⟨g, rfl⟩ : ∃ g, gk = g + 1 := ⟨gk - 1, by have := HJ.out; omega⟩
      go_wp2_with (go_roundg g; (case measure => omega); (case rel => exact ⟨j + 1, by have := HJ.out; omega, by go_num, by rw [HV.out], rfl⟩))
    · obtain rfl : j = 257 := by have := HJ.out; omega
      rw [kraft_end]
      clear hlt HJ HB4
      rw [show ((4294967296 : Nat) : Int) = 4294967296 from rfl]
      by_cases hcd : c = d
      · have hi : ((c : Int) == (d : Int)) = true := by simp; omega
        clear HNP
        go_wp2_with (go_returns; refine halt ?_)
        refine Halted.go ?_
        exact HK4.out
      · have hi : ((c : Int) == (d : Int)) = false := by simp; omega
        by_cases hmn : m < n
        · have hi2 : (m : Int) < (n : Int) := by omega
          clear HNP
          go_wp2_with (go_returns; refine halt ?_)
          refine Halted.go ?_
          exact HK4.out
        · have hi2 : (n : Int) ≤ (m : Int) := by omega
          have hm30 : (m : Int) ≤ 30 := by omega
          have hn0 : (0 : Int) ≤ (n : Int) := by omega
          have hne := HNP.out hcd (by omega)
          have e0 : (y : Int) / 2 ^ (m - n) = ((y / 2 ^ (m - n) : Nat) : Int) := by rw [Int.natCast_ediv, cast_two_pow]
          have hq : ((y : Int) / 2 ^ (m - n) != (x : Int)) = true := by
            rw [e0]
            simp
            exact_mod_cast hne
          have HQ := Lib.hid hq
          clear HNP e0 hne hq
          go_wp2_with (go_returns; refine halt ?_)
          refine Halted.go ?_
          exact ⟨by have := HQ.out; simpa using this, HK4.out⟩

end Go.Proofs.Yticdjfmebmblaaa
