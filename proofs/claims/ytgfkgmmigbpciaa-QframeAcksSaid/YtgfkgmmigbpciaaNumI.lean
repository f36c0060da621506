/- The plain laws of varints read back, of prefixes that go too far. -/
import Derived.Test.YtgfkgmmigbpciaaNumH
namespace Go.Proofs.Ytgfkgmmigbpciaa
open Go.RowKit Go.Deep

theorem varE_bigD (v : Int) (h0 : 0 ≤ v) (h1 : v ≤ 4611686018427387903) : ∃ (n : Nat) (t : Int), (n = 1 ∧ t = 0 ∧ v < 64 ∨ n = 2 ∧ t = 16384 ∧ v < 16384 ∨ n = 4 ∧ t = 2147483648 ∧ v < 1073741824 ∨ n = 8 ∧ t = 13835058055282163712) ∧ varLenV v = n ∧ varE v = bigD (v + t) n := by
  rcases varLenV_cases v with ⟨r1, hn⟩ | ⟨r0, r1, hn⟩ | ⟨r0, r1, hn⟩ | ⟨r0, r1, hn⟩ | ⟨r0, hn⟩
  · exact ⟨1, 0, .inl ⟨rfl, rfl, r1⟩, hn, by rw [varE_1 v r1, bigD_1, Int.add_zero]⟩
  · exact ⟨2, 16384, .inr (.inl ⟨rfl, rfl, r1⟩), hn, by unfold varE; rw [if_neg (by omega), if_pos r1]⟩
  · exact ⟨4, 2147483648, .inr (.inr (.inl ⟨rfl, rfl, r1⟩)), hn, by unfold varE; rw [if_neg (by omega), if_neg (by omega), if_pos r1]⟩
  · exact ⟨8, 13835058055282163712, .inr (.inr (.inr ⟨rfl, rfl⟩)), hn, by unfold varE; rw [if_neg (by omega), if_neg (by omega), if_neg (by omega)]⟩
  · omega

theorem rvN_byt (x : Int) (n : Nat) (h : n = 1 ∧ x % 256 < 64 ∨ n = 2 ∧ 64 ≤ x % 256 ∧ x % 256 < 128 ∨ n = 4 ∧ 128 ≤ x % 256 ∧ x % 256 < 192 ∨ n = 8 ∧ 192 ≤ x % 256) : rvN (byt x) = n := by
  have hb := byt_val x
  unfold rvN
  rcases h with ⟨rfl, h⟩ | ⟨rfl, h, h'⟩ | ⟨rfl, h, h'⟩ | ⟨rfl, h⟩
  · rw [if_pos (by omega)]; rfl
  · rw [if_neg (by omega), if_pos (by omega)]; rfl
  · rw [if_neg (by omega), if_neg (by omega), if_pos (by omega)]; rfl
  · rw [if_neg (by omega), if_neg (by omega), if_neg (by omega)]; rfl

/-- A varint, read back. -/
theorem rv_varE (v : Int) (h0 : 0 ≤ v) (h1 : v ≤ 4611686018427387903) (more : List UInt8) :
    rvV (varE v ++ more) = v ∧ rvL (varE v ++ more) = varLenV v ∧ rvE (varE v ++ more) = 0 := by
  obtain ⟨n, t, hc, hl, he⟩ := varE_bigD v h0 h1
  have hhead : rvN ((varE v ++ more).headD 0) = n := by
    rw [he]
    rcases hc with ⟨rfl, rfl, h⟩ | ⟨rfl, rfl, h⟩ | ⟨rfl, rfl, h⟩ | ⟨rfl, rfl⟩
    · rw [bigD_1]; exact rvN_byt _ 1 (.inl ⟨rfl, by omega⟩)
    · rw [bigD_2]; exact rvN_byt _ 2 (.inr (.inl ⟨rfl, by omega, by omega⟩))
    · rw [bigD_4]; exact rvN_byt _ 4 (.inr (.inr (.inl ⟨rfl, by omega, by omega⟩)))
    · rw [bigD_8]; exact rvN_byt _ 8 (.inr (.inr (.inr ⟨rfl, by omega⟩)))
  have hlen : (varE v).length = n := by rw [he, bigD_length]
  have hn1 : 1 ≤ n ∧ n ≤ 8 := by omega
  have hh : rvHave (varE v ++ more) = true := by
    simp only [rvHave, decide_eq_true_eq]
    rw [hhead, List.length_append, hlen]
    omega
  unfold rvV rvL rvE
  rw [hh, if_pos rfl, if_pos rfl, if_pos rfl, hhead, hl]
  refine ⟨?_, rfl, rfl⟩
  rw [he, (rbV_bigD (v + t) n hn1.2 more).1]
  rcases hc with ⟨rfl, rfl, h⟩ | ⟨rfl, rfl, h⟩ | ⟨rfl, rfl, h⟩ | ⟨rfl, rfl⟩
  · rw [show rvMask ((1 : Nat) : Int) = 64 from rvMask_1, show ((2 : Int) ^ (8 * 1)) = 256 by simp]; omega
  · rw [show rvMask ((2 : Nat) : Int) = 16384 from rvMask_2, show ((2 : Int) ^ (8 * 2)) = 65536 by simp]; omega
  · rw [show rvMask ((4 : Nat) : Int) = 1073741824 from rvMask_4, show ((2 : Int) ^ (8 * 4)) = 4294967296 by simp]; omega
  · rw [show rvMask ((8 : Nat) : Int) = 4611686018427387904 from rvMask_8, show ((2 : Int) ^ (8 * 8)) = 18446744073709551616 by simp]; omega

/-- One number's varint: how long, whether at all. -/
theorem vars_one (v : Int) : ((varsR [] [v]).length : Int) = varLenV v ∧ varsErr [v] = if varLenV v = 0 then 21 else 0 := by
  rcases varLenV_cases v with ⟨r1, hn⟩ | ⟨r0, r1, hn⟩ | ⟨r0, r1, hn⟩ | ⟨r0, r1, hn⟩ | ⟨r0, hn⟩
  · have : varsOK [v] = true := by simp [varsOK]; omega
    unfold varsR varsErr; rw [this, hn]; simp [varsE, varE_1 v r1]
  · have : varsOK [v] = true := by simp [varsOK]; omega
    unfold varsR varsErr; rw [this, hn]; simp [varsE, varE_2 v r0 r1]
  · have : varsOK [v] = true := by simp [varsOK]; omega
    unfold varsR varsErr; rw [this, hn]; simp [varsE, varE_4 v r0 r1]
  · have : varsOK [v] = true := by simp [varsOK]; omega
    unfold varsR varsErr; rw [this, hn]; simp [varsE, varE_8 v r0]
  · have : varsOK [v] = false := by simp [varsOK]; omega
    unfold varsR varsErr; rw [this, hn]; simp

/-- What a prefix reads as is no greater than may be. -/
theorem rpT_le : ∀ (k : Nat) (V : Int) (i : Nat) (cs : List UInt8), 0 ≤ V → V ≤ 4611686018427387903 → (rpT k V i cs).1 ≤ 4611686018427387903 := by
  intro k
  induction k with
  | zero => intro V i cs _ _; unfold rpT; simp
  | succ k ih =>
    intro V i cs h0 h1
    cases cs with
    | nil => unfold rpT; simp
    | cons c cs =>
      rw [rpT]
      by_cases hb : (4611686018427387903 - V) / 2 ^ (7 * i) < (c.toNat : Int) % 128
      · rw [if_pos hb]; simp
      · have ha := seven_add (i := i) h0 (Int.emod_nonneg (c.toNat : Int) (by omega : (128 : Int) ≠ 0)) (Int.not_lt.1 hb)
        rw [if_neg hb]
        split
        · exact ha.2.1
        · exact ih _ _ _ (by omega) ha.2.1
theorem rpR_le (xs : List UInt8) (n : Int) : (rpR xs n).1 ≤ 4611686018427387903 := by
  have hm := preM_bd n
  cases xs with
  | nil => unfold rpR; simp
  | cons c cs =>
    rw [rpR]
    split
    · simp only; omega
    · exact rpT_le _ _ _ _ (by omega) (by omega)

theorem rpT_zeros : ∀ (k : Nat) (V : Int) (i z : Nat) (more : List UInt8), 0 ≤ V → V ≤ 4611686018427387903 → k ≤ z → rpT k V i (List.replicate z 128 ++ more) = (0, 0, 21) := by
  intro k
  induction k with
  | zero => intro V i z more _ _ _; unfold rpT; rfl
  | succ k ih =>
    intro V i z more h0 h1 hz
    obtain ⟨z', rfl⟩ : ∃ z', z = z' + 1 := ⟨z - 1, by omega⟩
    have hp : (0 : Int) < 2 ^ (7 * i) := Int.pow_pos (by omega)
    have hb : ¬ (4611686018427387903 - V) / 2 ^ (7 * i) < ((128 : UInt8).toNat : Int) % 128 := by
      have : 0 ≤ (4611686018427387903 - V) / 2 ^ (7 * i) := Int.ediv_nonneg (by omega) (by omega)
      show ¬ _ < (0 : Int)
      omega
    rw [List.replicate_succ, List.cons_append, rpT, if_neg hb, if_neg (by decide)]
    have e : ((128 : UInt8).toNat : Int) % 128 = 0 := by decide
    rw [e, Int.zero_mul, Int.add_zero]
    exact ih V (i + 1) z' more h0 h1 (by omega)
/-- Ten bytes behind a prefix that all go on. -/
theorem rpR_zeros (c : UInt8) (n : Int) (hc : (c.toNat : Int) % 2 ^ preN n = preM n) (z : Nat) (more : List UInt8) (hz : 10 ≤ z) : rpR (c :: (List.replicate z 128 ++ more)) n = (0, 0, 21) := by
  have hm := preM_bd n
  rw [rpR, hc, if_neg (by omega)]
  exact rpT_zeros 10 _ 0 z more (by omega) (by omega) hz

end Go.Proofs.Ytgfkgmmigbpciaa
