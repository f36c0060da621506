/- bitsOf and Prefix of the packages num and bifoldref1. -/
import Derived.Test.YtffffgpahdkngaaNumC
namespace Go.Proofs.Ytffffgpahdkngaa
open Go.RowKit Go.Deep

/-- The bits of a prefix. -/
def atl1 (n : Int) : Int := if n < 1 then 1 else n
theorem atl1_eq (n : Int) : (if n < 1 then 1 else n) = atl1 n := rfl
def preN (n : Int) : Nat := (if 8 < atl1 n then 8 else atl1 n).toNat
theorem preN_bd (n : Int) : 1 ≤ preN n ∧ preN n ≤ 8 := by unfold preN atl1; constructor <;> (repeat' split) <;> omega
theorem preN_val (n : Int) : (if 8 < atl1 n then 8 else atl1 n) = ((preN n : Nat) : Int) := by unfold preN atl1; (repeat' split) <;> omega

theorem bitsof_any (n : Int) (w : World) : Calls Try.prog 23 #[.int .i64 n] w fun e w' => e = .returned (.int .u64 (preN n)) ∧ w = w' := by
  have h1 := atl1_eq n
  have h2 := preN_val n
  have h3 := preN_bd n
  have h4 := h3.1
  have h5 := h3.2
  go_enter Try.func23, Try.ntmps23
  go_wp2_with fail
  go_returns
  exact ⟨rfl, rfl⟩

/-- The greatest number that a prefix' bits hold. -/
def preM (n : Int) : Int := 2 ^ preN n - 1
def preTop (first n : Int) : Int := first - first % 2 ^ preN n

theorem preN_cases (n : Int) : preN n = 1 ∨ preN n = 2 ∨ preN n = 3 ∨ preN n = 4 ∨ preN n = 5 ∨ preN n = 6 ∨ preN n = 7 ∨ preN n = 8 := by
  have := preN_bd n
  omega

theorem preM_bd (n : Int) : 1 ≤ preM n ∧ preM n ≤ 255 := by
  unfold preM
  rcases preN_cases n with h | h | h | h | h | h | h | h <;> rw [h] <;> simp

/-- The mask, as the code has it. -/
theorem preM_wrap (n : Int) : IntKind.u64.wrap (IntKind.u64.wrap ((2 : Int) ^ preN n) - 1) = preM n := by
  unfold preM
  rw [IntKind.wrap_u64, IntKind.wrap_u64]
  rcases preN_cases n with h | h | h | h | h | h | h | h <;> rw [h] <;> simp

theorem preTop_bd (first n : Int) (h0 : 0 ≤ first) (h1 : first < 256) : 0 ≤ preTop first n ∧ preTop first n + preM n < 256 ∧ preTop first n % 2 ^ preN n = 0 := by
  unfold preTop preM
  rcases preN_cases n with h | h | h | h | h | h | h | h <;> rw [h] <;> simp <;> omega

theorem preTop_and (first n : Int) (h0 : 0 ≤ first) (h1 : first < 256) : bits .andNot .u8 first (preM n % 256) = preTop first n := by
  have := preM_bd n
  rw [Int.emod_eq_of_lt (by omega) (by omega)]
  exact andNot8 (preN n) (preN_bd n).2 h0 h1 rfl

theorem pre_first (first n x : Int) (h0 : 0 ≤ first) (h1 : first < 256) (hx0 : 0 ≤ x) (hx : x ≤ preM n) : Value.int .u8 (bits .or .u8 (bits .andNot .u8 first (IntKind.u64.wrap (IntKind.u64.wrap ((2 : Int) ^ preN n) - 1) % 256)) (x % 256)) = B (byt (preTop first n + x)) := by
  have hm := preM_bd n
  obtain ⟨t0, t1, t2⟩ := preTop_bd first n h0 h1
  rw [preM_wrap, preTop_and first n h0 h1, Int.emod_eq_of_lt hx0 (by omega), ← B_byt, or8 (preN n) t0 (by omega) t2 hx0 (by unfold preM at hx; omega) (by omega), Int.emod_eq_of_lt (by omega) (by omega)]

/-- What stands behind a prefix. -/
def preT : Nat → Int → List UInt8
  | 0, _ => []
  | k + 1, x => if x < 128 then [byt x] else byt (x % 128 + 128) :: preT k (x / 128)
theorem preT_small (g : Nat) (x : Int) (h : x < 128) : preT (g + 1) x = [byt x] := by unfold preT; rw [if_pos h]
theorem preT_big (g : Nat) (x : Int) (h : 128 ≤ x) : preT (g + 1) x = byt (x % 128 + 128) :: preT g (x / 128) := by rw [preT, if_neg (by omega)]
def preE (first n v : Int) : List UInt8 := if v < preM n then [byt (preTop first n + v)] else byt (preTop first n + preM n) :: preT 10 (v - preM n)

theorem or128 (y : Int) (h0 : 0 ≤ y) (h1 : y < 256) : bits .or .u8 y 128 = y % 128 + 128 := by
  obtain ⟨A, rfl⟩ := Int.eq_ofNat_of_zero_le h0
  have key : ∀ A : Fin 256, A.val ||| 128 = A.val % 128 + 128 := by decide +kernel
  have := key ⟨A, by omega⟩
  simp only at this
  rw [show (128 : Int) = ((128 : Nat) : Int) from rfl, u8_or_nat A 128 (by omega) (by omega), this]
  simp
theorem pre_more (x : Int) : Value.int .u8 (bits .or .u8 (x % 256) 128) = B (byt (x % 128 + 128)) := by
  have h0 : 0 ≤ x % 256 := Int.emod_nonneg _ (by omega)
  rw [or128 _ h0 (by omega), ← B_byt]
  congr 1
  omega
theorem pre_morer (x : Int) (h0 : 0 ≤ x) (h1 : x < 18446744073709551616) : Value.int .u8 (bits .or .u8 (bits .and .u64 x 127 % 256) 128) = B (byt (x % 128 + 128)) := by
  rw [and64 7 h0 h1 (by omega) (by simp), show (2 : Int) ^ 7 = 128 by simp, or128 _ (by omega) (by omega), ← B_byt]
  congr 1
  omega

set_option maxHeartbeats 800000 in
theorem prefix_any (a : Option Addr) (m cap : Nat) (xs : List UInt8) (first n v : Int) (w : World) (hb : By w a m cap xs) (hl : m ≤ 1000000000) (hf0 : 0 ≤ first) (hf1 : first < 256) (hv0 : 0 ≤ v) (hv1 : v ≤ 18446744073709551615) :
    Calls Try.prog 10 #[.slice a m cap, .int .u8 first, .int .i64 n, .int .u64 v] w fun e w' => ∃ a' n' cap', e = .returned (.slice a' n' cap') ∧ Bo w.heap.size w' a' n' cap' (xs ++ preE first n v) ∧ Below w.heap.size w w' := by
  have HB := Lib.hid hb
  have hn1 := (preN_bd n).1
  have hn8 := (preN_bd n).2
  have HW := Lib.hid (preM_wrap n)
  have HM := Lib.hid (preM_bd n)
  clear hb
  go_enter Try.func10, Try.ntmps10
  go_wp2_with fail
  refine (bitsof_any n w).mono ?_
  rintro e w' ⟨rfl, rfl⟩
  go_wp2_with (at_builtin; refine halt ?_)
  refine Halted.go (wpList_copy8 w rfl _ rfl a m cap xs rfl HB.out (by omega) ?_)
  intro a1 c1 w1 ho1 hk1
  have HO1 := Lib.hid ho1
  have HK1 := Lib.hid hk1
  clear ho1 hk1
  go_wp2_with (at_builtin; refine halt ?_)
  · have hlt : v < IntKind.u64.wrap (IntKind.u64.wrap ((2 : Int) ^ preN n) - 1) := by assumption
    have hlt2 : v < preM n := by rw [← HW.out]; exact hlt
    refine Halted.go (wpList_push8 w1 rfl _ _ _ _ (pre_first first n v hf0 hf1 hv0 (by omega)) rfl w.heap.size a1 _ c1 xs rfl HO1.out.bd rfl (by omega) HK1.out.size ?_)
    intro a3 c3 w3 ho3 hk3 hf3
    have HO3 := Lib.hid ho3
    have HK3 := Lib.hid (Keeps.below HK1.out hk3 HK1.out.size (fun k h => h.1))
    have HL := Lib.hid hlt2
    clear ho3 hk3 hf3 hlt2
    go_wp2_with fail
    go_returns
    refine ⟨a3, _, c3, rfl, ?_, HK3.out⟩
    unfold preE
    rw [if_pos HL.out]
    exact HO3.out
  · have hlt : IntKind.u64.wrap (IntKind.u64.wrap ((2 : Int) ^ preN n) - 1) ≤ v := by assumption
    have hlt2 : preM n ≤ v := by rw [← HW.out]; exact hlt
    have hpf := pre_first first n (preM n) hf0 hf1 (by have := HM.out; omega) (Int.le_refl _)
    rw [show preM n % 256 = IntKind.u64.wrap (IntKind.u64.wrap ((2 : Int) ^ preN n) - 1) % 256 by rw [HW.out]] at hpf
    refine Halted.go (wpList_push8 w1 rfl _ _ _ _ hpf rfl w.heap.size a1 _ c1 xs rfl HO1.out.bd rfl (by omega) HK1.out.size ?_)
    intro a3 c3 w3 ho3 hk3 hf3
    have HO3 := Lib.hid ho3
    have HK3 := Lib.hid (Keeps.below HK1.out hk3 HK1.out.size (fun k h => h.1))
    have HL := Lib.hid hlt2
    clear ho3 hk3 hf3 hlt2 hpf
    go_wp2_with fail
    have hsub : IntKind.u64.wrap (v - IntKind.u64.wrap (IntKind.u64.wrap ((2 : Int) ^ preN n) - 1)) = v - preM n := by
      rw [HW.out, IntKind.wrap_u64]
      have := HM.out
      have := HL.out
      omega
    have HS := Lib.hid hsub
    clear hsub
    go_loopg [11, 3] 9 (fun k vo vv wr => ∃ (x : Int) (a' : Option Addr) (cap' : Nat) (zs : List UInt8), vv = .int .u64 x ∧ vo = .slice a' zs.length cap' ∧ 0 ≤ x ∧ x ≤ 18446744073709551615 ∧ x < 128 ^ (k + 1) ∧ zs ++ preT (k + 1) x = xs ++ preE first n v ∧ zs.length + k ≤ m + 10 ∧ Bo w.heap.size wr a' zs.length cap' zs ∧ Below w.heap.size w wr)
    case atStart =>
      have hx := HL.out
      have hm := HM.out
      refine ⟨v - preM n, a3, c3, xs ++ [byt (preTop first n + preM n)], by rw [HS.out], by have := HO3.out.1; rw [← this], by omega, by omega, by simp; omega, ?_, by have := HO3.out.1; omega, by have h := HO3.out; rwa [h.1] at h, HK3.out⟩
      unfold preE
      rw [if_neg (by omega)]
      simp
    case round =>
      obtain ⟨x, a2, c2, zs, rfl, rfl, hx0, hx1, hxk, hz, hlen, ho, hk⟩ := hrel
      have HZ := Lib.hid hz
      have HO := Lib.hid ho
      have HK := Lib.hid hk
      have HX := Lib.hid hxk
      clear hz ho hk hxk
      by_cases hbig : 128 ≤ x
      · obtain ⟨g, rfl⟩ : ∃ g, gk = g + 1 := by
          cases gk with
          | zero => have := HX.out; simp at this; omega
          | succ g => exact ⟨g, rfl⟩
        go_wp2_with (at_builtin; refine halt ?_)
        refine Halted.go (wpList_push8 wr rfl _ _ _ _ (pre_more x) rfl w.heap.size a2 _ c2 zs rfl HO.out.bd rfl (by omega) HK.out.size ?_)
        intro a4 c4 w4 ho4 hk4 hf4
        have HO4 := Lib.hid ho4
        have HK4 := Lib.hid (Keeps.below HK.out hk4 HK.out.size (fun k h => h.1))
        clear ho4 hk4 hf4
        go_wp2_with fail
        go_roundg g
        case measure => omega
        case rel =>
          refine ⟨x / 128, a4, c4, zs ++ [byt (x % 128 + 128)], rfl, by simp, by omega, by omega, ?_, ?_, by simp; omega, ?_, HK4.out⟩
          · have := HX.out
            rw [Int.pow_succ] at this
            exact Int.ediv_lt_of_lt_mul (by omega) this
          · rw [← HZ.out, preT_big (g + 1) x hbig]; simp
          · have := HO4.out; rwa [show (zs ++ [byt (x % 128 + 128)]).length = zs.length + 1 by simp]
      · go_wp2_with (at_builtin; refine halt ?_)
        refine Halted.go (wpList_push8 wr rfl _ _ (byt x) _ (by rw [← B_byt, Int.emod_eq_of_lt hx0 (by omega)]) rfl w.heap.size a2 _ c2 zs rfl HO.out.bd rfl (by omega) HK.out.size ?_)
        intro a4 c4 w4 ho4 hk4 hf4
        have HO4 := Lib.hid ho4
        have HK4 := Lib.hid (Keeps.below HK.out hk4 HK.out.size (fun k h => h.1))
        clear ho4 hk4 hf4
        go_wp2_with fail
        go_returns
        refine ⟨a4, _, c4, rfl, ?_, HK4.out⟩
        have := HO4.out
        rwa [← preT_small gk x (by omega), HZ.out] at this

set_option maxHeartbeats 800000 in
theorem prefixr_any (base : Nat) (a : Option Addr) (m cap : Nat) (xs : List UInt8) (first n v : Int) (w : World) (hd : Bd base w a m cap xs) (hbase : base ≤ w.heap.size) (hl : m ≤ 1000000000) (hf0 : 0 ≤ first) (hf1 : first < 256) (hv0 : 0 ≤ v) (hv1 : v ≤ 18446744073709551615) :
    Calls Try.prog 11 #[.slice a m cap, .int .u8 first, .int .i64 n, .int .u64 v] w fun e w' => ∃ a' n' cap', e = .returned (.slice a' n' cap') ∧ Bd base w' a' n' cap' (xs ++ preE first n v) ∧ Keeps (mine base a) w w' ∧ Near base w a a' := by
  have HD := Lib.hid hd
  have hn1 := (preN_bd n).1
  have hn8 := (preN_bd n).2
  have hp1 := atl1_eq n
  have hp2 := preN_val n
  have HW := Lib.hid (preM_wrap n)
  have HM := Lib.hid (preM_bd n)
  clear hd
  go_enter Try.func11, Try.ntmps11
  go_wp2_with (at_builtin; refine halt ?_)
  · have hlt : v < IntKind.u64.wrap (IntKind.u64.wrap ((2 : Int) ^ preN n) - 1) := by assumption
    have hlt2 : v < preM n := by rw [← HW.out]; exact hlt
    refine Halted.go (wpList_push8 w rfl _ _ _ _ (pre_first first n v hf0 hf1 hv0 (by omega)) rfl base a _ cap xs rfl HD.out rfl (by omega) hbase ?_)
    intro a3 c3 w3 ho3 hk3 hf3
    have HO3 := Lib.hid ho3
    have HK3 := Lib.hid hk3
    have HF3 := Lib.hid hf3
    have HL := Lib.hid hlt2
    clear ho3 hk3 hf3 hlt2
    go_wp2_with fail
    go_returns
    refine ⟨a3, _, c3, rfl, ?_, HK3.out, HF3.out⟩
    unfold preE
    rw [if_pos HL.out]
    exact HO3.out.bd
  · have hlt : IntKind.u64.wrap (IntKind.u64.wrap ((2 : Int) ^ preN n) - 1) ≤ v := by assumption
    have hlt2 : preM n ≤ v := by rw [← HW.out]; exact hlt
    have hpf := pre_first first n (preM n) hf0 hf1 (by have := HM.out; omega) (Int.le_refl _)
    rw [show preM n % 256 = IntKind.u64.wrap (IntKind.u64.wrap ((2 : Int) ^ preN n) - 1) % 256 by rw [HW.out]] at hpf
    refine Halted.go (wpList_push8 w rfl _ _ _ _ hpf rfl base a _ cap xs rfl HD.out rfl (by omega) hbase ?_)
    intro a3 c3 w3 ho3 hk3 hf3
    have HO3 := Lib.hid ho3
    have HK3 := Lib.hid hk3
    have HF3 := Lib.hid hf3
    have HL := Lib.hid hlt2
    clear ho3 hk3 hf3 hlt2 hpf
    go_wp2_with fail
    have hsub : IntKind.u64.wrap (v - IntKind.u64.wrap (IntKind.u64.wrap ((2 : Int) ^ preN n) - 1)) = v - preM n := by
      rw [HW.out, IntKind.wrap_u64]
      have := HM.out
      have := HL.out
      omega
    have HS := Lib.hid hsub
    clear hsub
    go_loopg [0, 3] 9 (fun k vo vv wr => ∃ (x : Int) (a' : Option Addr) (cap' : Nat) (zs : List UInt8), vv = .int .u64 x ∧ vo = .slice a' zs.length cap' ∧ 0 ≤ x ∧ x ≤ 18446744073709551615 ∧ x < 128 ^ (k + 1) ∧ zs ++ preT (k + 1) x = xs ++ preE first n v ∧ zs.length + k ≤ m + 10 ∧ Bd base wr a' zs.length cap' zs ∧ Keeps (mine base a) w wr ∧ Near base w a a')
    case atStart =>
      have hx := HL.out
      have hm := HM.out
      refine ⟨v - preM n, a3, c3, xs ++ [byt (preTop first n + preM n)], by rw [HS.out], by have := HO3.out.1; rw [← this], by omega, by omega, by simp; omega, ?_, by have := HO3.out.1; omega, by have h := HO3.out.bd; rwa [h.1] at h, HK3.out, HF3.out⟩
      unfold preE
      rw [if_neg (by omega)]
      simp
    case round =>
      obtain ⟨x, a2, c2, zs, rfl, rfl, hx0, hx1, hxk, hz, hlen, ho, hk, hf⟩ := hrel
      have HZ := Lib.hid hz
      have HO := Lib.hid ho
      have HK := Lib.hid hk
      have HF := Lib.hid hf
      have HX := Lib.hid hxk
      have hbs : base ≤ wr.heap.size := by have := hk.size; omega
      clear hz ho hk hxk hf
      by_cases hbig : 128 ≤ x
      · obtain ⟨g, rfl⟩ : ∃ g, gk = g + 1 := by
          cases gk with
          | zero => have := HX.out; simp at this; omega
          | succ g => exact ⟨g, rfl⟩
        go_wp2_with (at_builtin; refine halt ?_)
        refine Halted.go (wpList_push8 wr rfl _ _ _ _ (pre_morer x hx0 (by omega)) rfl base a2 _ c2 zs rfl HO.out rfl (by omega) hbs ?_)
        intro a4 c4 w4 ho4 hk4 hf4
        have HO4 := Lib.hid ho4
        have HK4 := Lib.hid (Keeps.step HK.out HF.out hk4)
        have HF4 := Lib.hid (Near.step HF.out HK.out hf4)
        clear ho4 hk4 hf4
        go_wp2_with fail
        go_roundg g
        case measure => omega
        case rel =>
          refine ⟨x / 128, a4, c4, zs ++ [byt (x % 128 + 128)], rfl, by simp, by omega, by omega, ?_, ?_, by simp; omega, ?_, HK4.out, HF4.out⟩
          · have := HX.out
            rw [Int.pow_succ] at this
            exact Int.ediv_lt_of_lt_mul (by omega) this
          · rw [← HZ.out, preT_big (g + 1) x hbig]; simp
          · have := HO4.out.bd; rwa [show (zs ++ [byt (x % 128 + 128)]).length = zs.length + 1 by simp]
      · go_wp2_with (at_builtin; refine halt ?_)
        refine Halted.go (wpList_push8 wr rfl _ _ (byt x) _ (by rw [← B_byt, Int.emod_eq_of_lt hx0 (by omega)]) rfl base a2 _ c2 zs rfl HO.out rfl (by omega) hbs ?_)
        intro a4 c4 w4 ho4 hk4 hf4
        have HO4 := Lib.hid ho4
        have HK4 := Lib.hid (Keeps.step HK.out HF.out hk4)
        have HF4 := Lib.hid (Near.step HF.out HK.out hf4)
        clear ho4 hk4 hf4
        go_wp2_with fail
        go_returns
        refine ⟨a4, _, c4, rfl, ?_, HK4.out, HF4.out⟩
        have := HO4.out.bd
        rwa [← preT_small gk x (by omega), HZ.out] at this

end Go.Proofs.Ytffffgpahdkngaa
