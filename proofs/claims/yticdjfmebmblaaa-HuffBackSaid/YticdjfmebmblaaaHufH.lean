/- Encode of the package huff. -/
import Derived.Test.YticdjfmebmblaaaHufG
import Derived.Test.YticdjfmebmblaaaBits
namespace Go.Proofs.Yticdjfmebmblaaa
open Go.RowKit Go.Deep

/-- The pending bits of a number. -/
def Pend (A V r : Nat) : Prop := A % 2 ^ r = V % 2 ^ r

theorem acc_next {A V r l c : Nat} (hP : Pend A V r) (hr : r < 8) (hl : l ≤ 30) (hc : c < 2 ^ l) :
    A * 2 ^ l % 18446744073709551616 + c < 18446744073709551616 ∧ Pend (A * 2 ^ l % 18446744073709551616 + c) (V * 2 ^ l + c) (r + l) ∧ bits .or .u64 (IntKind.u64.wrap ((A : Int) * 2 ^ l)) (c : Int) = ((A * 2 ^ l % 18446744073709551616 + c : Nat) : Int) := by
  have h64 : (18446744073709551616 : Nat) = 2 ^ (64 - l) * 2 ^ l := by rw [← Nat.pow_add, show 64 - l + l = 64 by omega]
  have hmul : A * 2 ^ l % 18446744073709551616 = (A % 2 ^ (64 - l)) * 2 ^ l := by rw [h64, Nat.mul_mod_mul_right]
  have hlt : A % 2 ^ (64 - l) < 2 ^ (64 - l) := Nat.mod_lt _ (Nat.two_pow_pos _)
  have hb : A * 2 ^ l % 18446744073709551616 + c < 18446744073709551616 := by
    rw [hmul]
    have h1 : (A % 2 ^ (64 - l) + 1) * 2 ^ l ≤ 2 ^ (64 - l) * 2 ^ l := Nat.mul_le_mul_right _ hlt
    rw [Nat.add_mul, Nat.one_mul] at h1
    omega
  refine ⟨hb, ?_, ?_⟩
  · unfold Pend at hP ⊢
    have hd : 2 ^ (r + l) ∣ 18446744073709551616 := ⟨2 ^ (64 - (r + l)), by rw [← Nat.pow_add, show r + l + (64 - (r + l)) = 64 by omega]⟩
    rw [Nat.add_mod, Nat.mod_mod_of_dvd _ hd, Nat.add_mod (V * 2 ^ l)]
    rw [Nat.pow_add, Nat.mul_mod_mul_right, Nat.mul_mod_mul_right, hP]
  · have hw : IntKind.u64.wrap ((A : Int) * 2 ^ l) = ((A * 2 ^ l % 18446744073709551616 : Nat) : Int) := by
      rw [IntKind.wrap_u64, Int.natCast_emod, Int.natCast_mul, cast_two_pow]
      rfl
    have hm : (((A * 2 ^ l % 18446744073709551616 : Nat) : Int)) % 2 ^ l = 0 := by
      rw [hmul, ← cast_two_pow, ← Int.natCast_emod, Nat.mul_mod_left]
      rfl
    have hcl : (c : Int) < 2 ^ l := by rw [← cast_two_pow]; exact_mod_cast hc
    rw [hw, or64 l (by omega) (by omega) hm (by omega) hcl (by omega)]
    simp

theorem pend_le {A V r q : Nat} (h : Pend A V r) (hq : q ≤ r) : Pend A V q := by
  unfold Pend at h ⊢
  have hd : 2 ^ q ∣ 2 ^ r := Nat.pow_dvd_pow 2 hq
  rw [← Nat.mod_mod_of_dvd A hd, h, Nat.mod_mod_of_dvd V hd]

theorem pend_byte {A V q : Nat} (h : Pend A V q) (hq : 8 ≤ q) : A / 2 ^ (q - 8) % 256 = V / 2 ^ (q - 8) % 256 := by
  unfold Pend at h
  have e : 2 ^ q = 2 ^ (q - 8) * 256 := by rw [show (256 : Nat) = 2 ^ 8 from rfl, ← Nat.pow_add, show q - 8 + 8 = q by omega]
  rw [e] at h
  have h1 := congrArg (· / 2 ^ (q - 8)) h
  simp only [Nat.mod_mul_right_div_self] at h1
  exact h1

theorem byte_top {A V T e q : Nat} (hP : Pend A V q) (hq : 8 ≤ q) (hT : T = 8 * e + q) : Value.int .u8 ((A : Int) / 2 ^ (q - 8) % 256) = B (topB V T e) := by
  have h := pend_byte hP hq
  have e1 : (A : Int) / 2 ^ (q - 8) % 256 = ((A / 2 ^ (q - 8) % 256 : Nat) : Int) := by
    rw [Int.natCast_emod, Int.natCast_ediv, cast_two_pow]
    rfl
  have h2 : V / 2 ^ (q - 8) % 256 < 256 := Nat.mod_lt _ (by omega)
  unfold B topB
  rw [e1, h, UInt8.toNat_ofNat', show T - 8 * (e + 1) = q - 8 by omega, Nat.mod_eq_of_lt (a := V / 2 ^ (q - 8) % 256) h2]

theorem byte_last {A V T e r : Nat} (hP : Pend A V r) (h0 : 0 < r) (h8 : r < 8) (hT : T = 8 * e + r) :
    Value.int .u8 (bits .or .u8 (IntKind.u64.wrap ((A : Int) * 2 ^ (8 - r)) % 256) ((2 ^ (8 - r) - 1) % 256)) = B (topB (V * 2 ^ (8 - r) + (2 ^ (8 - r) - 1)) (T + (8 - r)) e) := by
  have hp : 2 ^ r * 2 ^ (8 - r) = 256 := by rw [← Nat.pow_add, show r + (8 - r) = 8 by omega]
  have hq : (2 : Nat) ^ (8 - r) ≤ 2 ^ 7 := Nat.pow_le_pow_right (by omega) (by omega)
  have hq0 := Nat.two_pow_pos (8 - r)
  have hmod : ∀ x : Nat, x * 2 ^ (8 - r) % 256 = (x % 2 ^ r) * 2 ^ (8 - r) := fun x => by rw [← hp, Nat.mul_mod_mul_right]
  have hlt : (V % 2 ^ r + 1) * 2 ^ (8 - r) ≤ 256 := by rw [← hp]; exact Nat.mul_le_mul_right _ (Nat.mod_lt _ (Nat.two_pow_pos r))
  rw [Nat.add_mul, Nat.one_mul] at hlt
  have ex : IntKind.u64.wrap ((A : Int) * 2 ^ (8 - r)) % 256 = (((V % 2 ^ r) * 2 ^ (8 - r) : Nat) : Int) := by
    rw [IntKind.wrap_u64, ← cast_two_pow, ← Int.natCast_mul]
    have : ((A * 2 ^ (8 - r) : Nat) : Int) % 18446744073709551616 % 256 = ((A * 2 ^ (8 - r) % 256 : Nat) : Int) := by omega
    rw [this, hmod, hP]
  have ey : ((2 : Int) ^ (8 - r) - 1) % 256 = ((2 ^ (8 - r) - 1 : Nat) : Int) := by
    rw [← cast_two_pow]
    omega
  have ez : (((V % 2 ^ r) * 2 ^ (8 - r) : Nat) : Int) % 2 ^ (8 - r) = 0 := by
    rw [← cast_two_pow, ← Int.natCast_emod, Nat.mul_mod_left]
    rfl
  have ew : ((2 ^ (8 - r) - 1 : Nat) : Int) < 2 ^ (8 - r) := by rw [← cast_two_pow]; omega
  rw [ex, ey, or8 (8 - r) (by omega) (by omega) ez (by omega) ew (by omega)]
  unfold B topB
  have hsum : (V * 2 ^ (8 - r) + (2 ^ (8 - r) - 1)) % 256 = (V % 2 ^ r) * 2 ^ (8 - r) + (2 ^ (8 - r) - 1) := by
    rw [Nat.add_mod, hmod]
    omega
  rw [UInt8.toNat_ofNat', show T + (8 - r) - 8 * (e + 1) = 0 by omega, Nat.pow_zero, Nat.div_one, hsum]
  have hz : ((V % 2 ^ r) * 2 ^ (8 - r) + (2 ^ (8 - r) - 1)) % 2 ^ 8 = (V % 2 ^ r) * 2 ^ (8 - r) + (2 ^ (8 - r) - 1) := Nat.mod_eq_of_lt (by omega)
  rw [hz, Int.natCast_add]

theorem bytes_length (s : ByteArray) : s.data.toList.length = s.size := Array.length_toList

theorem byte_get (s : ByteArray) (j : Nat) (h : j < s.size) : s.data.toList.getD j 0 = s[j] := by
  simp [List.getD, h]
  rfl

set_option maxRecDepth 100000 in
set_option maxHeartbeats 3200000 in
theorem encode_any (a : Option Addr) (m cap : Nat) (xs : List UInt8) (s : ByteArray) (w : World) (hb : By w a m cap xs) (hm : m ≤ 1000000) (hs : s.size ≤ 1000000) :
    Calls Try.prog 10 #[.slice a m cap, .string s] w fun e w' => ∃ a' cap', e = .returned (.slice a' (m + sizeN s.data.toList) cap') ∧ Bo w.heap.size w' a' (m + sizeN s.data.toList) cap' (xs ++ encN s.data.toList) ∧ Below w.heap.size w w' := by
  have HB := Lib.hid hb
  clear hb
  obtain ⟨hz0, hi0⟩ := zero_of_info info_c
  have g0 : (Try.prog.info? 46).map (·.size) = some (Cs prL).size := by rw [hi0, Cs_size, prL, prS_length]
  have G0 := Lib.hid g0
  clear hi0 g0
  obtain ⟨Z, hZ⟩ : ∃ Z, Z = Cs (List.replicate 257 (0, 0)) := ⟨_, rfl⟩
  rw [← hZ] at hz0
  have hzs : Z.size = (Cs prL).size := by rw [hZ, Cs_size, Cs_size, prL, prS_length, List.length_replicate]
  have HZ := Lib.hid hzs
  clear hZ hzs
  go_enter Try.func10, Try.ntmps10
  go_wp2_with (at_builtin; refine halt ?_)
  refine Halted.go (wpList_copy8 w rfl _ rfl a m cap xs rfl HB.out (by omega) ?_)
  intro a1 c1 w1 ho1 hk1
  have HO1 := Lib.hid ho1
  have HK1 := Lib.hid hk1
  clear ho1 hk1
  go_wp2_with fail
  refine (codes_any _).mono ?_
  rintro e w2 ⟨rfl, hk⟩
  have HO2 := Lib.hid (HO1.out.keep (Below.keeps hk) (fun b hb => by have := (HO1.out.ge b hb).2; omega))
  have HK2 := Lib.hid (HK1.out.trans (hk.mono HK1.out.size))
  clear hk HO1 HK1
  unfold codesV
  go_wp2_with (refine wpList_store_blk rfl 46 _ _ rfl w2.heap.size (Cs prL) rfl rfl _ _ (Blk.new w2 Z _) G0.out HZ.out (Cs_all _) ?_; refine halt ?_)
  rw [World.setRow_alloc_new]
  have HC := Lib.hid (Blk.new w2 (Cs prL) 46)
  have HO3 := Lib.hid (HO2.out.keep (S := fun _ => False) ((Keeps.refl _ w2).alloc (.cells (Cs prL) 46 (0, 0))) (fun _ _ h => h))
  have HK3 := Lib.hid (below_new HK2.out (.cells (Cs prL) 46 (0, 0)))
  have hcb : w.heap.size ≤ w2.heap.size := HK2.out.size
  have HNE : Hid (∀ b, a1.map (·.block) = some b → b ≠ w2.heap.size) := by
    intro b hb
    have := (HO2.out.ge b hb).2
    omega
  clear hz0 HO2 HK2 G0 HZ
  generalize w2.alloc (.cells (Cs prL) 46 (0, 0)) = w3 at *
  generalize w2.heap.size = cb at *
  clear w2 w1
  refine Halted.go ?_
  go_wp2_with fail
  go_loopg [5, 7, 8, 16] s.size (fun k vo va vn vi wr => ∃ (j A e r : Nat) (a' : Option Addr) (cap' : Nat), k + j = s.size ∧ vi = .int .i64 j ∧ va = .int .u64 A ∧ A < 18446744073709551616 ∧ vn = .int .i64 r ∧ r < 8 ∧ encT s.data.toList j = 8 * e + r ∧
    Pend A (encV s.data.toList j) r ∧ vo = .slice a' (m + e) cap' ∧ Bo w.heap.size wr a' (m + e) cap' (xs ++ topsB (encV s.data.toList j) (encT s.data.toList j) e) ∧ Blk wr cb (Cs prL) 46 ∧ Below w.heap.size w wr ∧ (∀ b, a'.map (·.block) = some b → b ≠ cb))
  case atStart => exact ⟨0, 0, 0, 0, a1, c1, rfl, rfl, rfl, by omega, rfl, by omega, rfl, rfl, rfl, by simpa [topsB] using HO3.out, HC.out, HK3.out, HNE.out⟩
  case round =>
    obtain ⟨j, A, e, r, a2, c2, hj, rfl, rfl, hA, rfl, hr, hT, hP, rfl, ho, hc, hk, hn⟩ := hrel
    have HJ := Lib.hid hj
    have HT := Lib.hid hT
    have HP := Lib.hid hP
    have HO := Lib.hid ho
    have HCC := Lib.hid hc
    have HK := Lib.hid hk
    have HN := Lib.hid hn
    clear hj hT hP ho hc hk hn
    by_cases hlt : j < s.size
    · have hx := u8_lt s[j]
      have hg := Cs_get prL s[j].toNat (by rw [prL, prS_length]; exact hx)
      rw [prL_get _ hx, Nat.mul_comm 2] at hg
      have d1 : wr.cell? ⟨cb, s[j].toNat * 2, none⟩ = some (.int .u32 ((codeN s[j].toNat : Nat) : Int)) := by rw [HCC.out.cell, hg.1]
      have d2 : wr.cell? ⟨cb, s[j].toNat * 2 + 1, none⟩ = some (.int .i64 ((lenN s[j].toNat : Nat) : Int)) := by rw [HCC.out.cell, hg.2]
      have HTS : Hid (encT s.data.toList (j + 1) = encT s.data.toList j + lenN s[j].toNat) := by
        show encT s.data.toList j + _ = _
        rw [byte_get s j hlt]
      have HVS : Hid (encV s.data.toList (j + 1) = encV s.data.toList j * 2 ^ lenN s[j].toNat + codeN s[j].toNat) := by
        show encV s.data.toList j * _ + _ = _
        rw [byte_get s j hlt]
      have hy := (code_ok _ hx).2.1
      have HCL := Lib.hid (code_lt hx)
      have hp : 2 ^ lenN s[j].toNat ≤ 2 ^ 30 := Nat.pow_le_pow_right (by omega) hy
      have hcb : codeN s[j].toNat < 1073741824 := Nat.lt_of_lt_of_le HCL.out hp
      have hx0 : (0 : Int) ≤ (s[j].toNat : Int) := by omega
      have hx1 : (s[j].toNat : Int) < 257 := by omega
      clear hg hp
      generalize codeN s[j].toNat = c at *
      generalize lenN s[j].toNat = l at *
      have hl0 : (0 : Int) ≤ (l : Int) := by omega
      have hl30 : (l : Int) ≤ 30 := by omega
      go_wp2_with fail
      have hwl : IntKind.u64.wrap (l : Int) = (l : Int) := by rw [IntKind.wrap_u64]; omega
      have hwc : IntKind.u64.wrap (c : Int) = (c : Int) := by rw [IntKind.wrap_u64]; omega
      have hwr : IntKind.i64.wrap ((r : Int) + (l : Int)) = (r : Int) + (l : Int) := IntWalk.i64_in _ (by omega)
      go_quiet (fail)
      go_wp2_with fail
      obtain ⟨hA', hP', hbits⟩ := acc_next HP.out hr hy HCL.out
      rw [← HVS.out] at hP'
      rw [hbits, show (r : Int) + (l : Int) = ((r + l : Nat) : Int) by simp]
      have hT' : encT s.data.toList (j + 1) = 8 * e + (r + l) := by rw [HTS.out, HT.out]; omega
      have ht := topsB_ext (encV s.data.toList j) (encT s.data.toList j) l c e HCL.out (by have := HT.out; omega)
      rw [← HVS.out, ← HTS.out] at ht
      have HO' := Lib.hid (((HO.out.keep (S := fun _ => False) ((Keeps.refl _ wr).alloc (.cells #[.int .u32 (c : Int), .int .i64 (l : Int)] 45 (0, 0))) (fun _ _ h => h)).keep (S := fun _ => False) ((Keeps.refl _ _).drewN nq) (fun _ _ h => h)))
      rw [← ht] at HO'
      have HC' := Lib.hid ((HCC.out.alloc (.cells #[.int .u32 (c : Int), .int .i64 (l : Int)] 45 (0, 0))).drewN nq)
      have HK' := Lib.hid (Below.drewN' (below_new HK.out (.cells #[.int .u32 (c : Int), .int .i64 (l : Int)] 45 (0, 0))) nq)
      have HT' := Lib.hid hT'
      have HP2 := Lib.hid hP'
      clear d1 d2 hbits hwl hwc hwr ht hT' hP' HVS HTS HCL HO HCC HK HP HT
      generalize A * 2 ^ l % 18446744073709551616 + c = A' at *
      obtain ⟨V, hV⟩ : ∃ V, V = encV s.data.toList (j + 1) := ⟨_, rfl⟩
      obtain ⟨T, hTe⟩ : ∃ T, T = encT s.data.toList (j + 1) := ⟨_, rfl⟩
      have hTb : T ≤ 30 * (j + 1) := by rw [hTe]; exact encT_le _ _
      rw [← hV] at HP2 HO'
      rw [← hTe] at HT' HO'
      have HVE := Lib.hid hV
      have HTE := Lib.hid hTe
      clear hV hTe
      obtain ⟨q0, hq0⟩ : ∃ q, q = r + l := ⟨_, rfl⟩
      have hq37 : q0 ≤ 37 := by omega
      rw [← hq0] at HT' HP2 ⊢
      clear hq0
      generalize (wr.alloc (.cells #[.int .u32 (c : Int), .int .i64 (l : Int)] 45 (0, 0))).drewN nq = w5 at *
      obtain ⟨g, rfl⟩ : ∃ g, gk = g + 1 := ⟨gk - 1, by have := HJ.out; omega⟩
      go_loopg [5, 8] q0 (fun k vo vn wq => ∃ (e' q : Nat) (a' : Option Addr) (cap' : Nat), k = q ∧ vn = .int .i64 q ∧ T = 8 * e' + q ∧ q ≤ q0 ∧ vo = .slice a' (m + e') cap' ∧
        Bo w.heap.size wq a' (m + e') cap' (xs ++ topsB V T e') ∧ Blk wq cb (Cs prL) 46 ∧ Below w.heap.size w wq ∧ (∀ b, a'.map (·.block) = some b → b ≠ cb))
      case atStart => exact ⟨e, q0, a2, c2, rfl, rfl, HT'.out, Nat.le_refl _, rfl, HO'.out, HC'.out, HK'.out, HN.out⟩
      case round =>
        obtain ⟨e', q, a3, c3, rfl, rfl, ht, hq, rfl, ho, hc, hk, hn⟩ := hrel
        have HTT := Lib.hid ht
        have HO := Lib.hid ho
        have HCC := Lib.hid hc
        have HK := Lib.hid hk
        have HN3 := Lib.hid hn
        clear ht ho hc hk hn
        by_cases h8 : 8 ≤ gk
        · have hq8 : (8 : Int) ≤ (gk : Int) := by omega
          have hq9 : (gk : Int) ≤ 37 := by omega
          go_wp2_with (at_builtin; refine halt ?_)
          refine Halted.go (wpList_push8 wr rfl _ _ (topB V T e') _ (byte_top (pend_le HP2.out hq) h8 HTT.out) rfl w.heap.size a3 (m + e') c3 (xs ++ topsB V T e') rfl HO.out.bd rfl (by have := HTT.out; omega) HK.out.size ?_)
          intro a4 c4 w6 ho6 hk6 hf6
          have HO6 := Lib.hid ho6
          have HK6 := Lib.hid (Keeps.below HK.out hk6 HK.out.size (fun k h => h.1))
          have HC6 := Lib.hid (hk6.blk HCC.out (fun h => HN3.out _ h.2 rfl))
          have HN6 : Hid (∀ b, a4.map (·.block) = some b → b ≠ cb) := by
            intro b hb
            rcases hf6 b hb with h | h
            · rw [h] at hb; exact HN3.out b hb
            · have := HCC.out.lt; omega
          clear ho6 hk6 hf6
          go_wp2_with fail
          go_roundg (gk - 8)
          case measure => omega
          case rel =>
            refine ⟨e' + 1, gk - 8, a4, c4, rfl, by go_num, by have := HTT.out; omega, by omega, rfl, ?_, HC6.out, HK6.out, HN6.out⟩
            have := HO6.out
            rwa [List.append_assoc, ← topsB_succ] at this
        · go_wp2_with fail
          go_roundg g
          case measure => omega
          case rel =>
            refine ⟨j + 1, A', e', gk, a3, c3, by have := HJ.out; omega, by go_num, rfl, hA', rfl, by omega, by rw [← HTE.out]; exact HTT.out, by rw [← HVE.out]; exact pend_le HP2.out hq, rfl, ?_, HCC.out, HK.out, HN3.out⟩
            rw [← HVE.out, ← HTE.out]
            exact HO.out
    · obtain rfl : j = s.size := by have := HJ.out; omega
      have hsl := bytes_length s
      have HEN : Hid (r = 0 → encN s.data.toList = topsB (encV s.data.toList s.size) (encT s.data.toList s.size) e ∧ sizeN s.data.toList = e) := by
        intro h0
        have h1 := HT.out
        have h2 : sizeN s.data.toList = e := by rw [sizeN, hsl]; omega
        have h3 : padN (encT s.data.toList s.size) = 0 := by unfold padN; omega
        refine ⟨?_, h2⟩
        rw [encN, h2, fullV, hsl, h3, show 8 * e = encT s.data.toList s.size by omega]
        simp
      have HEP : Hid (0 < r → encN s.data.toList = topsB (encV s.data.toList s.size) (encT s.data.toList s.size) e ++ [topB (encV s.data.toList s.size * 2 ^ (8 - r) + (2 ^ (8 - r) - 1)) (encT s.data.toList s.size + (8 - r)) e] ∧ sizeN s.data.toList = e + 1) := by
        intro h0
        have h1 := HT.out
        have h2 : sizeN s.data.toList = e + 1 := by rw [sizeN, hsl]; omega
        have h3 : padN (encT s.data.toList s.size) = 8 - r := by unfold padN; omega
        have hq0 := Nat.two_pow_pos (8 - r)
        refine ⟨?_, h2⟩
        rw [encN, h2, fullV, hsl, h3, show 8 * (e + 1) = encT s.data.toList s.size + (8 - r) by omega, topsB_succ, topsB_ext _ _ _ _ _ (by omega) (by omega)]
      have htb := encT_le s.data.toList s.size
      clear hsl hlt
      by_cases h0 : r = 0
      · obtain ⟨E1, E2⟩ := HEN.out h0
        have HE1 := Lib.hid E1
        have HE2 := Lib.hid E2
        subst h0
        clear E1 E2
        go_wp2_with (go_returns; refine halt ?_)
        exact ⟨a2, c2, ⟨rfl, HE2.out.symm, rfl⟩, by rw [HE1.out, HE2.out]; exact HO.out, HK.out⟩
      · obtain ⟨E1, E2⟩ := HEP.out (by omega)
        have HE1 := Lib.hid E1
        have HE2 := Lib.hid E2
        have hr0 : (0 : Int) < (r : Int) := by omega
        have hr7 : (r : Int) ≤ 7 := by omega
        clear E1 E2
        go_wp2_with (at_builtin; refine halt ?_)
        refine Halted.go (wpList_push8 wr rfl _ _ (topB (encV s.data.toList s.size * 2 ^ (8 - r) + (2 ^ (8 - r) - 1)) (encT s.data.toList s.size + (8 - r)) e) _ (byte_last HP.out (by omega) hr HT.out) rfl w.heap.size a2 (m + e) c2 (xs ++ topsB (encV s.data.toList s.size) (encT s.data.toList s.size) e) rfl HO.out.bd rfl (by have := HT.out; omega) HK.out.size ?_)
        intro a4 c4 w6 ho6 hk6 hf6
        have HO6 := Lib.hid ho6
        have HK6 := Lib.hid (Keeps.below HK.out hk6 HK.out.size (fun k h => h.1))
        clear ho6 hk6 hf6 htb
        go_wp2_with (go_returns; refine halt ?_)
        exact ⟨a4, c4, ⟨rfl, by rw [HE2.out]; rfl, rfl⟩, by rw [HE1.out, HE2.out, ← List.append_assoc]; exact HO6.out, HK6.out⟩

end Go.Proofs.Yticdjfmebmblaaa
