/- The code's plain law: which sign a code is, what a string is coded as, what bytes are decoded to. No program in sight. -/
import Derived.Test.YticdjfmebmblaaaB
namespace Go.Proofs.Yticdjfmebmblaaa

def lenL : List Nat := [13, 23, 28, 28, 28, 28, 28, 28, 28, 24, 30, 28, 28, 30, 28, 28, 28, 28, 28, 28, 28, 28, 30, 28, 28, 28, 28, 28, 28, 28, 28, 28, 6, 10, 10, 12, 13, 6, 8, 11, 10, 10, 8, 11, 8, 6, 6, 6, 5, 5, 5, 6, 6, 6, 6, 6, 6, 6, 7, 8, 15, 6, 12, 10, 13, 6, 7, 7, 7, 7, 7, 7, 7, 7, 7, 7, 7, 7, 7, 7, 7, 7, 7, 7, 7, 7, 7, 7, 8, 7, 8, 13, 19, 13, 14, 6, 15, 5, 6, 5, 6, 5, 6, 6, 6, 5, 7, 7, 6, 6, 6, 5, 6, 7, 6, 5, 5, 6, 7, 7, 7, 7, 7, 15, 11, 14, 13, 28, 20, 22, 20, 20, 22, 22, 22, 23, 22, 23, 23, 23, 23, 23, 24, 23, 24, 24, 22, 23, 24, 23, 23, 23, 23, 21, 22, 23, 22, 23, 23, 24, 22, 21, 20, 22, 22, 23, 23, 21, 23, 22, 22, 24, 21, 22, 23, 23, 21, 21, 22, 21, 23, 22, 23, 23, 20, 22, 22, 22, 23, 22, 22, 23, 26, 26, 20, 19, 22, 23, 22, 25, 26, 26, 26, 27, 27, 26, 24, 25, 19, 21, 26, 27, 27, 26, 27, 24, 21, 21, 26, 26, 28, 27, 27, 27, 20, 24, 20, 21, 22, 21, 21, 23, 22, 22, 25, 25, 24, 24, 26, 23, 26, 27, 26, 26, 27, 27, 27, 27, 27, 28, 27, 27, 27, 27, 27, 26, 30]
def codeL : List Nat := [8184, 8388568, 268435426, 268435427, 268435428, 268435429, 268435430, 268435431, 268435432, 16777194, 1073741820, 268435433, 268435434, 1073741821, 268435435, 268435436, 268435437, 268435438, 268435439, 268435440, 268435441, 268435442, 1073741822, 268435443, 268435444, 268435445, 268435446, 268435447, 268435448, 268435449, 268435450, 268435451, 20, 1016, 1017, 4090, 8185, 21, 248, 2042, 1018, 1019, 249, 2043, 250, 22, 23, 24, 0, 1, 2, 25, 26, 27, 28, 29, 30, 31, 92, 251, 32764, 32, 4091, 1020, 8186, 33, 93, 94, 95, 96, 97, 98, 99, 100, 101, 102, 103, 104, 105, 106, 107, 108, 109, 110, 111, 112, 113, 114, 252, 115, 253, 8187, 524272, 8188, 16380, 34, 32765, 3, 35, 4, 36, 5, 37, 38, 39, 6, 116, 117, 40, 41, 42, 7, 43, 118, 44, 8, 9, 45, 119, 120, 121, 122, 123, 32766, 2044, 16381, 8189, 268435452, 1048550, 4194258, 1048551, 1048552, 4194259, 4194260, 4194261, 8388569, 4194262, 8388570, 8388571, 8388572, 8388573, 8388574, 16777195, 8388575, 16777196, 16777197, 4194263, 8388576, 16777198, 8388577, 8388578, 8388579, 8388580, 2097116, 4194264, 8388581, 4194265, 8388582, 8388583, 16777199, 4194266, 2097117, 1048553, 4194267, 4194268, 8388584, 8388585, 2097118, 8388586, 4194269, 4194270, 16777200, 2097119, 4194271, 8388587, 8388588, 2097120, 2097121, 4194272, 2097122, 8388589, 4194273, 8388590, 8388591, 1048554, 4194274, 4194275, 4194276, 8388592, 4194277, 4194278, 8388593, 67108832, 67108833, 1048555, 524273, 4194279, 8388594, 4194280, 33554412, 67108834, 67108835, 67108836, 134217694, 134217695, 67108837, 16777201, 33554413, 524274, 2097123, 67108838, 134217696, 134217697, 67108839, 134217698, 16777202, 2097124, 2097125, 67108840, 67108841, 268435453, 134217699, 134217700, 134217701, 1048556, 16777203, 1048557, 2097126, 4194281, 2097127, 2097128, 8388595, 4194282, 4194283, 33554414, 33554415, 16777204, 16777205, 67108842, 8388596, 67108843, 134217702, 67108844, 67108845, 134217703, 134217704, 134217705, 134217706, 134217707, 268435454, 134217708, 134217709, 134217710, 134217711, 134217712, 67108846, 1073741823]
def orderL : List Nat := [48, 49, 50, 97, 99, 101, 105, 111, 115, 116, 32, 37, 45, 46, 47, 51, 52, 53, 54, 55, 56, 57, 61, 65, 95, 98, 100, 102, 103, 104, 108, 109, 110, 112, 114, 117, 58, 66, 67, 68, 69, 70, 71, 72, 73, 74, 75, 76, 77, 78, 79, 80, 81, 82, 83, 84, 85, 86, 87, 89, 106, 107, 113, 118, 119, 120, 121, 122, 38, 42, 44, 59, 88, 90, 33, 34, 40, 41, 63, 39, 43, 124, 35, 62, 0, 36, 64, 91, 93, 126, 94, 125, 60, 96, 123, 92, 195, 208, 128, 130, 131, 162, 184, 194, 224, 226, 153, 161, 167, 172, 176, 177, 179, 209, 216, 217, 227, 229, 230, 129, 132, 133, 134, 136, 146, 154, 156, 160, 163, 164, 169, 170, 173, 178, 181, 185, 186, 187, 189, 190, 196, 198, 228, 232, 233, 1, 135, 137, 138, 139, 140, 141, 143, 147, 149, 150, 151, 152, 155, 157, 158, 165, 166, 168, 174, 175, 180, 182, 183, 188, 191, 197, 231, 239, 9, 142, 144, 145, 148, 159, 171, 206, 215, 225, 236, 237, 199, 207, 234, 235, 192, 193, 200, 201, 202, 205, 210, 213, 218, 219, 238, 240, 242, 243, 255, 203, 204, 211, 212, 214, 221, 222, 223, 241, 244, 245, 246, 247, 248, 250, 251, 252, 253, 254, 2, 3, 4, 5, 6, 7, 8, 11, 12, 14, 15, 16, 17, 18, 19, 20, 21, 23, 24, 25, 26, 27, 28, 29, 30, 31, 127, 220, 249, 10, 13, 22, 256]
def firstL : List Nat := [0, 0, 0, 0, 0, 0, 20, 92, 248, 508, 1016, 2042, 4090, 8184, 16380, 32764, 65534, 131068, 262136, 524272, 1048550, 2097116, 4194258, 8388568, 16777194, 33554412, 67108832, 134217694, 268435426, 536870910, 1073741820, 2147483648]
def cntL : List Nat := [0, 0, 0, 0, 0, 10, 26, 32, 6, 0, 5, 3, 2, 6, 2, 3, 0, 0, 0, 3, 8, 13, 26, 29, 12, 4, 15, 19, 29, 0, 4, 0]
def atL : List Nat := [0, 0, 0, 0, 0, 0, 10, 36, 68, 74, 74, 79, 82, 84, 90, 92, 95, 95, 95, 95, 98, 106, 119, 145, 174, 186, 190, 205, 224, 253, 253, 257]

def lenN (s : Nat) : Nat := lenL.getD s 0
def codeN (s : Nat) : Nat := codeL.getD s 0
def ordN (i : Nat) : Nat := orderL.getD i 0
def fstN (n : Nat) : Nat := firstL.getD n 0
def cntN (n : Nat) : Nat := cntL.getD n 0
def atN (n : Nat) : Nat := atL.getD n 0

theorem fst_succ : ∀ n, n < 31 → fstN (n + 1) = 2 * (fstN n + cntN n) := by decide +kernel
theorem code_ok : ∀ s, s < 257 → 5 ≤ lenN s ∧ lenN s ≤ 30 ∧ fstN (lenN s) ≤ codeN s ∧ codeN s < fstN (lenN s) + cntN (lenN s) ∧ ordN (atN (lenN s) + (codeN s - fstN (lenN s))) = s := by decide +kernel
theorem ord_ok : ∀ n, n < 32 → ∀ k, k < cntN n → ordN (atN n + k) < 257 ∧ lenN (ordN (atN n + k)) = n ∧ codeN (ordN (atN n + k)) = fstN n + k ∧ atN n + k < 257 := by decide +kernel
theorem full : fstN 30 + cntN 30 = 2 ^ 30 := by decide +kernel
theorem fst_le : ∀ n, n < 31 → fstN n + cntN n ≤ 2 ^ n := by decide +kernel
theorem pre_ok : ∀ s, s < 257 → ∀ m, m < lenN s → fstN m + cntN m ≤ codeN s / 2 ^ (lenN s - m) := by decide +kernel
theorem ones_ok : ∀ n, n < 30 → fstN n + cntN n ≤ 2 ^ n - 1 := by decide +kernel

theorem code_lt {s : Nat} (h : s < 257) : codeN s < 2 ^ lenN s := by
  obtain ⟨_, h2, _, h4, _⟩ := code_ok s h
  exact Nat.lt_of_lt_of_le h4 (fst_le _ (by omega))

/-- Which sign has the code of n bits. -/
def sgn (now n : Nat) : Option Nat := if fstN n ≤ now ∧ now < fstN n + cntN n then some (ordN (atN n + (now - fstN n))) else none

theorem sgn_spec {now n s : Nat} (hn : n < 32) : sgn now n = some s ↔ s < 257 ∧ lenN s = n ∧ codeN s = now := by
  unfold sgn
  constructor
  · intro h
    split at h
    · rename_i hc
      simp only [Option.some.injEq] at h
      obtain ⟨h1, h2, h3, _⟩ := ord_ok n hn (now - fstN n) (by omega)
      rw [h] at h1 h2 h3
      exact ⟨h1, h2, by omega⟩
    · cases h
  · rintro ⟨h1, rfl, rfl⟩
    obtain ⟨_, _, h3, h4, h5⟩ := code_ok s h1
    rw [if_pos ⟨h3, h4⟩, h5]

/-- Bit i of bytes. -/
def bitAt (xs : List UInt8) (i : Nat) : Nat := (xs.getD (i / 8) 0).toNat / 2 ^ (7 - i % 8) % 2
theorem bitAt_lt (xs : List UInt8) (i : Nat) : bitAt xs i < 2 := Nat.mod_lt _ (by omega)

/-- How far reading has come. -/
inductive St where
  | run (now n : Nat) (ones : Bool) (out : List UInt8)
  | huff
  | long

def St.step : St → Nat → St
  | .run now n ones out, bit => match sgn (2 * now + bit) (n + 1) with
    | none => .run (2 * now + bit) (n + 1) (ones && bit == 1) out
    | some s => if s = 256 then .huff else if out.length = 4096 then .long else .run 0 0 true (out ++ [UInt8.ofNat s])
  | .huff, _ => .huff
  | .long, _ => .long

def St.fin : St → List UInt8 × Nat
  | .run _ n ones out => if 8 ≤ n ∨ ones = false then ([], 22) else (out, 0)
  | .huff => ([], 22)
  | .long => ([], 23)

/-- .. behind i bits. -/
def st (xs : List UInt8) : Nat → St
  | 0 => .run 0 0 true []
  | i + 1 => (st xs i).step (bitAt xs i)

def decN (xs : List UInt8) : List UInt8 × Nat := (st xs (8 * xs.length)).fin

theorem st_huff {xs : List UInt8} {i : Nat} (h : st xs i = .huff) (k : Nat) : st xs (i + k) = .huff := by
  induction k with
  | zero => exact h
  | succ k ih => show (st xs (i + k)).step _ = _; rw [ih]; rfl
theorem st_long {xs : List UInt8} {i : Nat} (h : st xs i = .long) (k : Nat) : st xs (i + k) = .long := by
  induction k with
  | zero => exact h
  | succ k ih => show (st xs (i + k)).step _ = _; rw [ih]; rfl
theorem dec_huff {xs : List UInt8} {i : Nat} (h : st xs i = .huff) (hi : i ≤ 8 * xs.length) : decN xs = ([], 22) := by
  unfold decN
  rw [show 8 * xs.length = i + (8 * xs.length - i) by omega, st_huff h]; rfl
theorem dec_long {xs : List UInt8} {i : Nat} (h : st xs i = .long) (hi : i ≤ 8 * xs.length) : decN xs = ([], 23) := by
  unfold decN
  rw [show 8 * xs.length = i + (8 * xs.length - i) by omega, st_long h]; rfl

/-- What is known of a code that is not whole. -/
theorem st_inv (xs : List UInt8) (i : Nat) : ∀ now n ones out, st xs i = .run now n ones out → n < 30 ∧ fstN n + cntN n ≤ now ∧ now < 2 ^ n ∧ out.length ≤ 4096 := by
  induction i with
  | zero =>
    intro now n ones out h
    simp only [st, St.run.injEq] at h
    obtain ⟨rfl, rfl, rfl, rfl⟩ := h
    exact ⟨by omega, by decide +kernel, by omega, by simp⟩
  | succ i ih =>
    intro now n ones out h
    simp only [st] at h
    cases hs : st xs i with
    | huff => rw [hs] at h; cases h
    | long => rw [hs] at h; cases h
    | run now0 n0 ones0 out0 =>
      obtain ⟨h1, h2, h3, h4⟩ := ih _ _ _ _ hs
      rw [hs] at h
      have hb := bitAt_lt xs i
      have hf := fst_succ n0 (by omega)
      have hp : 2 ^ (n0 + 1) = 2 * 2 ^ n0 := by rw [Nat.pow_succ]; omega
      simp only [St.step] at h
      split at h
      · rename_i hn
        simp only [St.run.injEq] at h
        obtain ⟨rfl, rfl, rfl, rfl⟩ := h
        have hnot : fstN (n0 + 1) + cntN (n0 + 1) ≤ 2 * now0 + bitAt xs i := by
          unfold sgn at hn
          split at hn
          · cases hn
          · rename_i hc; omega
        refine ⟨?_, hnot, by omega, h4⟩
        by_cases h29 : n0 = 29
        · subst h29
          have hf30 : fstN (29 + 1) + cntN (29 + 1) = 2 ^ 30 := full
          have hp30 : (2 : Nat) ^ 30 = 2 * 2 ^ 29 := by decide
          omega
        · omega
      · rename_i s hn
        split at h
        · cases h
        · split at h
          · cases h
          · simp only [St.run.injEq] at h
            obtain ⟨rfl, rfl, rfl, rfl⟩ := h
            exact ⟨by omega, by decide +kernel, by omega, by simp; omega⟩

/-! ### What a string is coded as -/
/-- The number that the codes of the first i bytes are, one behind another; how many bits. -/
def encT (s : List UInt8) : Nat → Nat
  | 0 => 0
  | i + 1 => encT s i + lenN (s.getD i 0).toNat
def encV (s : List UInt8) : Nat → Nat
  | 0 => 0
  | i + 1 => encV s i * 2 ^ lenN (s.getD i 0).toNat + codeN (s.getD i 0).toNat

/-- Bytes of a number of t bits, from the highest. -/
def topB (v t j : Nat) : UInt8 := UInt8.ofNat (v / 2 ^ (t - 8 * (j + 1)) % 256)
def topsB (v t k : Nat) : List UInt8 := (List.range k).map (topB v t)

def padN (t : Nat) : Nat := (8 - t % 8) % 8
def fullV (s : List UInt8) : Nat := encV s s.length * 2 ^ padN (encT s s.length) + (2 ^ padN (encT s s.length) - 1)
def sizeN (s : List UInt8) : Nat := (encT s s.length + 7) / 8
def encN (s : List UInt8) : List UInt8 := topsB (fullV s) (8 * sizeN s) (sizeN s)

theorem topsB_length (v t k : Nat) : (topsB v t k).length = k := by simp [topsB]
theorem encN_length (s : List UInt8) : (encN s).length = sizeN s := topsB_length _ _ _

theorem u8_lt (c : UInt8) : c.toNat < 257 := by have := c.toNat_lt; omega

theorem topB_ext (v t l c j : Nat) (hc : c < 2 ^ l) (hj : 8 * (j + 1) ≤ t) : topB (v * 2 ^ l + c) (t + l) j = topB v t j := by
  unfold topB
  have e : t + l - 8 * (j + 1) = l + (t - 8 * (j + 1)) := by omega
  rw [e, Nat.pow_add, ← Nat.div_div_eq_div_mul, Nat.add_comm (v * 2 ^ l) c, Nat.add_mul_div_right _ _ (Nat.two_pow_pos l), Nat.div_eq_of_lt hc, Nat.zero_add]
theorem topsB_ext (v t l c k : Nat) (hc : c < 2 ^ l) (hk : 8 * k ≤ t) : topsB (v * 2 ^ l + c) (t + l) k = topsB v t k := by
  unfold topsB
  refine List.map_congr_left fun j hj => topB_ext v t l c j hc ?_
  have := List.mem_range.1 hj
  omega
theorem topsB_succ (v t k : Nat) : topsB v t (k + 1) = topsB v t k ++ [topB v t k] := by simp [topsB, List.range_succ]

theorem topB_bit (v t i : Nat) (hi : i < t) (ht : t % 8 = 0) : (topB v t (i / 8)).toNat / 2 ^ (7 - i % 8) % 2 = v / 2 ^ (t - 1 - i) % 2 := by
  unfold topB
  rw [UInt8.toNat_ofNat', Nat.mod_mod]
  have e8 : (256 : Nat) = 2 ^ (7 - i % 8) * 2 ^ (i % 8 + 1) := by
    rw [← Nat.pow_add, show 7 - i % 8 + (i % 8 + 1) = 8 by omega]
  have hd : ∀ x a b : Nat, x % (2 ^ a * 2 ^ (b + 1)) / 2 ^ a % 2 = x / 2 ^ a % 2 := by
    intro x a b
    rw [Nat.mod_mul_right_div_self, Nat.pow_succ, Nat.mod_mul_left_mod]
  rw [e8, hd, Nat.div_div_eq_div_mul, ← Nat.pow_add]
  congr 3
  omega

theorem sizeN_eq (s : List UInt8) : 8 * sizeN s = encT s s.length + padN (encT s s.length) := by unfold sizeN padN; omega

theorem enc_bit (s : List UInt8) (i : Nat) (hi : i < 8 * sizeN s) : bitAt (encN s) i = fullV s / 2 ^ (8 * sizeN s - 1 - i) % 2 := by
  unfold bitAt
  have hl : i / 8 < sizeN s := by omega
  have e : (encN s).getD (i / 8) 0 = topB (fullV s) (8 * sizeN s) (i / 8) := by
    simp [encN, topsB, List.getD, hl]
  rw [e, topB_bit _ _ _ hi (by omega)]

/-- V at k is the head of V at a later one. -/
theorem encV_head (s : List UInt8) (k d : Nat) : ∃ r, encV s (k + d) = encV s k * 2 ^ (encT s (k + d) - encT s k) + r ∧ r < 2 ^ (encT s (k + d) - encT s k) ∧ encT s k ≤ encT s (k + d) := by
  induction d with
  | zero => exact ⟨0, by simp, by simp, Nat.le_refl _⟩
  | succ d ih =>
    obtain ⟨r, h1, h2, h3⟩ := ih
    have hc := code_lt (u8_lt (s.getD (k + d) 0))
    refine ⟨r * 2 ^ lenN (s.getD (k + d) 0).toNat + codeN (s.getD (k + d) 0).toNat, ?_, ?_, ?_⟩
    · show encV s (k + d) * 2 ^ lenN (s.getD (k + d) 0).toNat + codeN (s.getD (k + d) 0).toNat = encV s k * 2 ^ (encT s (k + d) + lenN (s.getD (k + d) 0).toNat - encT s k) + _
      rw [h1, show encT s (k + d) + lenN (s.getD (k + d) 0).toNat - encT s k = (encT s (k + d) - encT s k) + lenN (s.getD (k + d) 0).toNat by omega, Nat.pow_add, Nat.add_mul, Nat.mul_assoc, Nat.add_assoc]
    · show _ < 2 ^ (encT s (k + d) + lenN (s.getD (k + d) 0).toNat - encT s k)
      rw [show encT s (k + d) + lenN (s.getD (k + d) 0).toNat - encT s k = (encT s (k + d) - encT s k) + lenN (s.getD (k + d) 0).toNat by omega, Nat.pow_add]
      calc r * 2 ^ lenN (s.getD (k + d) 0).toNat + codeN (s.getD (k + d) 0).toNat < r * 2 ^ lenN (s.getD (k + d) 0).toNat + 2 ^ lenN (s.getD (k + d) 0).toNat := by omega
        _ = (r + 1) * 2 ^ lenN (s.getD (k + d) 0).toNat := by rw [Nat.add_mul, Nat.one_mul]
        _ ≤ _ := Nat.mul_le_mul_right _ h2
    · show encT s k ≤ encT s (k + d) + _
      omega

theorem full_head (s : List UInt8) (k : Nat) (hk : k ≤ s.length) : fullV s / 2 ^ (8 * sizeN s - encT s k) = encV s k ∧ encT s k ≤ encT s s.length := by
  obtain ⟨r, h1, h2, h3⟩ := encV_head s k (s.length - k)
  rw [show k + (s.length - k) = s.length by omega] at h1 h2 h3
  refine ⟨?_, h3⟩
  rw [sizeN_eq, show encT s s.length + padN (encT s s.length) - encT s k = padN (encT s s.length) + (encT s s.length - encT s k) by omega, Nat.pow_add, ← Nat.div_div_eq_div_mul]
  unfold fullV
  have hp := Nat.two_pow_pos (padN (encT s s.length))
  rw [Nat.add_comm, Nat.add_mul_div_right _ _ hp, Nat.div_eq_of_lt (a := 2 ^ padN (encT s s.length) - 1) (by omega), Nat.zero_add, h1, Nat.add_comm, Nat.add_mul_div_right _ _ (Nat.two_pow_pos _), Nat.div_eq_of_lt h2, Nat.zero_add]

/-- Bit j of the code of byte k. -/
theorem code_bit (s : List UInt8) (k j : Nat) (hk : k < s.length) (hj : j < lenN (s.getD k 0).toNat) :
    encT s k + j < 8 * sizeN s ∧ bitAt (encN s) (encT s k + j) = codeN (s.getD k 0).toNat / 2 ^ (lenN (s.getD k 0).toNat - 1 - j) % 2 := by
  obtain ⟨h1, h2⟩ := full_head s (k + 1) hk
  have h3 := sizeN_eq s
  have e : encT s (k + 1) = encT s k + lenN (s.getD k 0).toNat := rfl
  have hlt : encT s k + j < 8 * sizeN s := by omega
  refine ⟨hlt, ?_⟩
  rw [enc_bit s _ hlt, show 8 * sizeN s - 1 - (encT s k + j) = (8 * sizeN s - encT s (k + 1)) + (lenN (s.getD k 0).toNat - 1 - j) by omega, Nat.pow_add, ← Nat.div_div_eq_div_mul, h1]
  show (encV s k * 2 ^ lenN (s.getD k 0).toNat + codeN (s.getD k 0).toNat) / _ % 2 = _
  generalize lenN (s.getD k 0).toNat = l at *
  rw [show encV s k * 2 ^ l = (encV s k * 2 * 2 ^ j) * 2 ^ (l - 1 - j) by rw [Nat.mul_assoc, Nat.mul_assoc, ← Nat.pow_add, ← Nat.pow_succ', show (j + (l - 1 - j)).succ = l by omega], Nat.add_comm, Nat.add_mul_div_right _ _ (Nat.two_pow_pos _), Nat.mul_assoc, Nat.mul_comm 2, ← Nat.mul_assoc, Nat.add_mul_mod_self_right]

/-- Behind the codes all bits are ones. -/
theorem pad_bit (s : List UInt8) (j : Nat) (hj : encT s s.length + j < 8 * sizeN s) : bitAt (encN s) (encT s s.length + j) = 1 := by
  rw [enc_bit s _ hj]
  have h3 := sizeN_eq s
  unfold fullV
  generalize padN (encT s s.length) = p at *
  rw [show 8 * sizeN s - 1 - (encT s s.length + j) = p - 1 - j by omega]
  have e : 2 ^ p = 2 * 2 ^ j * 2 ^ (p - 1 - j) := by rw [Nat.mul_comm 2, ← Nat.pow_succ, ← Nat.pow_add]; congr 1; omega
  have hp := Nat.two_pow_pos (p - 1 - j)
  have hq := Nat.two_pow_pos j
  have e2 : encV s s.length * 2 ^ p + (2 ^ p - 1) = (2 ^ (p - 1 - j) - 1) + (encV s s.length * (2 * 2 ^ j) + (2 * 2 ^ j - 1)) * 2 ^ (p - 1 - j) := by
    rw [e, Nat.add_mul, ← Nat.mul_assoc, Nat.sub_mul, Nat.one_mul]
    have : 2 ^ (p - 1 - j) ≤ 2 * 2 ^ j * 2 ^ (p - 1 - j) := Nat.le_mul_of_pos_left _ (by omega)
    omega
  rw [e2, Nat.add_mul_div_right _ _ hp, Nat.div_eq_of_lt (by omega), Nat.zero_add]
  have e3 : encV s s.length * (2 * 2 ^ j) + (2 * 2 ^ j - 1) = 2 * (encV s s.length * 2 ^ j + 2 ^ j - 1) + 1 := by
    have : encV s s.length * (2 * 2 ^ j) = 2 * (encV s s.length * 2 ^ j) := by rw [Nat.mul_left_comm]
    omega
  rw [e3]
  omega

theorem half (x l j : Nat) (hj : j < l) : 2 * (x / 2 ^ (l - j)) + x / 2 ^ (l - 1 - j) % 2 = x / 2 ^ (l - 1 - j) := by
  have e : x / 2 ^ (l - j) = x / 2 ^ (l - 1 - j) / 2 := by
    rw [Nat.div_div_eq_div_mul, ← Nat.pow_succ]; congr 2; omega
  rw [e]
  omega

/-- Within a code. -/
theorem st_mid (xs s : List UInt8) (k : Nat) (out : List UInt8) (h0 : st xs (encT s k) = .run 0 0 true out)
    (hb : ∀ j, j < lenN (s.getD k 0).toNat → bitAt xs (encT s k + j) = codeN (s.getD k 0).toNat / 2 ^ (lenN (s.getD k 0).toNat - 1 - j) % 2) (j : Nat) (hj : j < lenN (s.getD k 0).toNat) :
    ∃ ones, st xs (encT s k + j) = .run (codeN (s.getD k 0).toNat / 2 ^ (lenN (s.getD k 0).toNat - j)) j ones out := by
  have hc := u8_lt (s.getD k 0)
  have hlt := code_lt hc
  generalize hcc : (s.getD k 0).toNat = c at *
  induction j with
  | zero => exact ⟨true, by rw [Nat.add_zero, h0, Nat.sub_zero, Nat.div_eq_of_lt hlt]⟩
  | succ j ih =>
    obtain ⟨ones, h⟩ := ih (by omega)
    have h1 : st xs (encT s k + (j + 1)) = (st xs (encT s k + j)).step (bitAt xs (encT s k + j)) := rfl
    rw [h1, h, hb j (by omega)]
    simp only [St.step]
    rw [half _ _ _ (by omega)]
    have hp := pre_ok c hc (j + 1) hj
    have e : sgn (codeN c / 2 ^ (lenN c - 1 - j)) (j + 1) = none := by
      unfold sgn
      rw [if_neg]
      rw [show lenN c - 1 - j = lenN c - (j + 1) by omega]
      omega
    rw [e, show lenN c - 1 - j = lenN c - (j + 1) by omega]
    exact ⟨_, rfl⟩

theorem st_code (xs s : List UInt8) (k : Nat) (out : List UInt8) (h0 : st xs (encT s k) = .run 0 0 true out)
    (hb : ∀ j, j < lenN (s.getD k 0).toNat → bitAt xs (encT s k + j) = codeN (s.getD k 0).toNat / 2 ^ (lenN (s.getD k 0).toNat - 1 - j) % 2) :
    st xs (encT s (k + 1)) = if out.length = 4096 then .long else .run 0 0 true (out ++ [s.getD k 0]) := by
  have hc := u8_lt (s.getD k 0)
  obtain ⟨c1, c2, _⟩ := code_ok _ hc
  obtain ⟨ones, h⟩ := st_mid xs s k out h0 hb (lenN (s.getD k 0).toNat - 1) (by omega)
  have e1 : encT s (k + 1) = encT s k + (lenN (s.getD k 0).toNat - 1) + 1 := by show encT s k + _ = _; omega
  rw [e1]
  show (st xs _).step _ = _
  rw [h, hb _ (by omega)]
  simp only [St.step]
  rw [half _ _ _ (by omega), show lenN (s.getD k 0).toNat - 1 - (lenN (s.getD k 0).toNat - 1) = 0 by omega, Nat.pow_zero, Nat.div_one, show lenN (s.getD k 0).toNat - 1 + 1 = lenN (s.getD k 0).toNat by omega,
    (sgn_spec (by omega)).2 ⟨hc, rfl, rfl⟩]
  have h256 : (s.getD k 0).toNat ≠ 256 := by have := (s.getD k 0).toNat_lt; omega
  simp only
  rw [if_neg h256, UInt8.ofNat_toNat]

/-- Bits of a string's code at the head of bytes. -/
def Heads (xs s : List UInt8) : Prop := ∀ k, k < s.length → ∀ j, j < lenN (s.getD k 0).toNat → bitAt xs (encT s k + j) = codeN (s.getD k 0).toNat / 2 ^ (lenN (s.getD k 0).toNat - 1 - j) % 2

theorem heads_enc (s : List UInt8) : Heads (encN s) s := fun k hk j hj => (code_bit s k j hk hj).2

theorem st_string (xs s : List UInt8) (h : Heads xs s) (k : Nat) (hk : k ≤ s.length) (h4 : k ≤ 4096) : st xs (encT s k) = .run 0 0 true (s.take k) := by
  induction k with
  | zero => rfl
  | succ k ih =>
    rw [st_code xs s k (s.take k) (ih (by omega) (by omega)) (h k hk), if_neg (by rw [List.length_take]; omega)]
    congr 1
    rw [List.take_succ_eq_append_getElem hk]
    congr 2
    simp [List.getD, List.getElem?_eq_getElem (show k < s.length by omega)]

theorem st_too_long (xs s : List UInt8) (h : Heads xs s) (h4 : 4096 < s.length) : st xs (encT s 4097) = .long := by
  rw [st_code xs s 4096 (s.take 4096) (st_string xs s h 4096 (by omega) (Nat.le_refl _)) (h _ h4), if_pos (by rw [List.length_take]; omega)]

/-- Ones behind a string. -/
theorem st_ones (xs s : List UInt8) (h : Heads xs s) (h4 : s.length ≤ 4096) (m : Nat) (hm : m < 30) (hb : ∀ j, j < m → bitAt xs (encT s s.length + j) = 1) :
    st xs (encT s s.length + m) = .run (2 ^ m - 1) m true s := by
  induction m with
  | zero =>
    have := st_string xs s h s.length (Nat.le_refl _) h4
    rw [List.take_length] at this
    exact this
  | succ m ih =>
    show (st xs (encT s s.length + m)).step (bitAt xs (encT s s.length + m)) = _
    rw [ih (by omega) (fun j hj => hb j (by omega)), hb m (by omega)]
    simp only [St.step]
    have hp := Nat.two_pow_pos m
    have e : 2 * (2 ^ m - 1) + 1 = 2 ^ (m + 1) - 1 := by rw [Nat.pow_succ]; omega
    have ho := ones_ok (m + 1) hm
    have hn : sgn (2 ^ (m + 1) - 1) (m + 1) = none := by unfold sgn; rw [if_neg]; omega
    rw [e, hn]
    rfl

/-- What is coded is read back. -/
theorem dec_enc (s : List UInt8) : decN (encN s) = if s.length ≤ 4096 then (s, 0) else ([], 23) := by
  by_cases h : s.length ≤ 4096
  · rw [if_pos h]
    unfold decN
    rw [encN_length, sizeN_eq]
    have hp : padN (encT s s.length) < 8 := by unfold padN; omega
    rw [st_ones _ s (heads_enc s) h _ (by omega) (fun j hj => pad_bit s j (by rw [sizeN_eq]; omega))]
    simp only [St.fin]
    rw [if_neg (by simp; omega)]
  · rw [if_neg h]
    refine dec_long (st_too_long _ s (heads_enc s) (by omega)) ?_
    rw [encN_length]
    have := (full_head s 4097 (by omega)).2
    have := sizeN_eq s
    omega

/-- A byte of ones behind it. -/
theorem dec_more (s : List UInt8) (h : s.length ≤ 4096) : decN (encN s ++ [255]) = ([], 22) := by
  have hl := encN_length s
  have hz := sizeN_eq s
  have hp : padN (encT s s.length) < 8 := by unfold padN; omega
  have b1 : ∀ i, i < 8 * sizeN s → bitAt (encN s ++ [255]) i = bitAt (encN s) i := by
    intro i hi
    unfold bitAt
    have hi8 : i / 8 < (encN s).length := by rw [hl]; omega
    simp only [List.getD]
    rw [List.getElem?_append_left hi8]
  have b2 : ∀ i, 8 * sizeN s ≤ i → i < 8 * sizeN s + 8 → bitAt (encN s ++ [255]) i = 1 := by
    intro i h1 h2
    unfold bitAt
    have hi8 : (encN s).length ≤ i / 8 := by rw [hl]; omega
    simp only [List.getD]
    rw [List.getElem?_append_right hi8, hl, show i / 8 - sizeN s = 0 by omega]
    have : i % 8 < 8 := Nat.mod_lt _ (by omega)
    generalize i % 8 = r at *
    have hr : r = 0 ∨ r = 1 ∨ r = 2 ∨ r = 3 ∨ r = 4 ∨ r = 5 ∨ r = 6 ∨ r = 7 := by omega
    rcases hr with rfl | rfl | rfl | rfl | rfl | rfl | rfl | rfl <;> rfl
  have hh : Heads (encN s ++ [255]) s := fun k hk j hj => by
    obtain ⟨h1, h2⟩ := code_bit s k j hk hj
    rw [b1 _ h1, h2]
  have := st_ones _ s hh h (padN (encT s s.length) + 8) (by omega) (fun j hj => by
    by_cases hj2 : encT s s.length + j < 8 * sizeN s
    · rw [b1 _ hj2, pad_bit s j hj2]
    · exact b2 _ (by omega) (by omega))
  unfold decN
  rw [List.length_append, hl, show 8 * (sizeN s + [(255 : UInt8)].length) = encT s s.length + (padN (encT s s.length) + 8) by simp only [List.length_cons, List.length_nil]; omega, this]
  simp only [St.fin]
  rw [if_pos (by omega)]

end Go.Proofs.Yticdjfmebmblaaa
