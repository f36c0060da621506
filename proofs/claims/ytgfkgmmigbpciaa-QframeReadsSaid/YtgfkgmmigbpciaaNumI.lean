/- The plain laws of varints read back, of prefixes that go too far. -/
import Derived.Test.YtgfkgmmigbpciaaNumH
namespace Go.Proofs.Ytgfkgmmigbpciaa
set_option linter.unusedSimpArgs false
set_option linter.unusedVariables false
open Go.RowKit Go.Deep

theorem varE_bigD (v : Int) (h0 : 0 ≤ v) (h1 : v ≤ 4611686018427387903) : ∃ (n : Nat) (t : Int), (n = 1 ∧ t = 0 ∧ v < 64 ∨ n = 2 ∧ t = 16384 ∧ v < 16384 ∨ n = 4 ∧ t = 2147483648 ∧ v < 1073741824 ∨ n = 8 ∧ t = 13835058055282163712) ∧ varLenV v = n ∧ varE v = bigD (v + t) n := by
 rcases varLenV_cases v with ⟨r1, hn⟩ | ⟨r0, r1, hn⟩ | ⟨r0, r1, hn⟩ | ⟨r0, r1, hn⟩ | ⟨r0, hn⟩
 ·exact ⟨1, 0, .inl ⟨rfl, rfl, r1⟩, hn, by rw [varE_1 v r1, bigD_1, Int.add_zero]⟩
 ·exact ⟨2, 16384, .inr (.inl ⟨rfl, rfl, r1⟩), hn, by unfold varE; rw [if_neg (by omega), if_pos r1]⟩
 ·exact ⟨4, 2147483648, .inr (.inr (.inl ⟨rfl, rfl, r1⟩)), hn, by unfold varE; rw [if_neg (by omega), if_neg (by omega), if_pos r1]⟩
 ·exact ⟨8, 13835058055282163712, .inr (.inr (.inr ⟨rfl, rfl⟩)), hn, by unfold varE; rw [if_neg (by omega), if_neg (by omega), if_neg (by omega)]⟩
 ·omega

theorem rvN_byt (x : Int) (n : Nat) (h : n = 1 ∧ x % 256 < 64 ∨ n = 2 ∧ 64 ≤ x % 256 ∧ x % 256 < 128 ∨ n = 4 ∧ 128 ≤ x % 256 ∧ x % 256 < 192 ∨ n = 8 ∧ 192 ≤ x % 256) : rvN (byt x) = n := by
 have hb := byt_val x
 unfold rvN
 rcases h with ⟨rfl, h⟩ | ⟨rfl, h, h'⟩ | ⟨rfl, h, h'⟩ | ⟨rfl, h⟩
 ·rw [if_pos (by omega)]; rfl
 ·rw [if_neg (by omega), if_pos (by omega)]; rfl
 ·rw [if_neg (by omega), if_neg (by omega), if_pos (by omega)]; rfl
 ·rw [if_neg (by omega), if_neg (by omega), if_neg (by omega)]; rfl

/-- A varint, read back. -/
theorem rv_varE (v : Int) (h0 : 0 ≤ v) (h1 : v ≤ 4611686018427387903) (more : List UInt8) :
  rvV (varE v ++ more) = v ∧ rvL (varE v ++ more) = varLenV v ∧ rvE (varE v ++ more) = 0 := by
 obtain ⟨n, t, hc, hl, he⟩ := varE_bigD v h0 h1
 have hhead : rvN ((varE v ++ more).headD 0) = n := by
  rw [he]
  rcases hc with ⟨rfl, rfl, h⟩ | ⟨rfl, rfl, h⟩ | ⟨rfl, rfl, h⟩ | ⟨rfl, rfl⟩
  ·rw [bigD_1]; exact rvN_byt _ 1 (.inl ⟨rfl, by omega⟩)
  ·rw [bigD_2]; exact rvN_byt _ 2 (.inr (.inl ⟨rfl, by omega, by omega⟩))
  ·rw [bigD_4]; exact rvN_byt _ 4 (.inr (.inr (.inl ⟨rfl, by omega, by omega⟩)))
  ·rw [bigD_8]; exact rvN_byt _ 8 (.inr (.inr (.inr ⟨rfl, by omega⟩)))
 have hlen : (varE v).length = n := by rw [he, bigD_length]
 have hn1 : 1 ≤ n ∧ n ≤ 8 := by omega
 have hh : rvHave (varE v ++ more) = true := by
  simp only [rvHave, decide_eq_true_eq]
  rw [hhead, List.length_append, hlen]
  omega
 unfold rvV rvL rvE
 rw [hh, if_pos rfl, if_pos rfl, if_pos rfl, hhead, hl]
 refine ⟨?_, rfl, rfl⟩
 rw [he, (rbV_bigD (v + t) n hn1.2 more).1]
 rcases hc with ⟨rfl, rfl, h⟩ | ⟨rfl, rfl, h⟩ | ⟨rfl, rfl, h⟩ | ⟨rfl, rfl⟩
 ·rw [show rvMask ((1 : Nat) : Int) = 64 from rvMask_1, show ((2 : Int) ^ (8 * 1)) = 256 by simp]; omega
 ·rw [show rvMask ((2 : Nat) : Int) = 16384 from rvMask_2, show ((2 : Int) ^ (8 * 2)) = 65536 by simp]; omega
 ·rw [show rvMask ((4 : Nat) : Int) = 1073741824 from rvMask_4, show ((2 : Int) ^ (8 * 4)) = 4294967296 by simp]; omega
 ·rw [show rvMask ((8 : Nat) : Int) = 4611686018427387904 from rvMask_8, show ((2 : Int) ^ (8 * 8)) = 18446744073709551616 by simp]; omega

end Go.Proofs.Ytgfkgmmigbpciaa
