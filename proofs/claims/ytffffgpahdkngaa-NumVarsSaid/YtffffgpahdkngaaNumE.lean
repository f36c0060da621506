/- ReadPrefix of the packages num and bifoldref1. -/
import Derived.Test.YtffffgpahdkngaaNumD
namespace Go.Proofs.Ytffffgpahdkngaa
open Go.RowKit Go.Deep

/-- What bytes behind a prefix read as: the i-th of them next, k of them at most. -/
def rpT : Nat → Int → Nat → List UInt8 → Int × Int × Int
  | 0, _, _, _ => (0, 0, 21)
  | _ + 1, _, _, [] => (0, 0, 20)
  | k + 1, v, i, c :: cs => if (4611686018427387903 - v) / 2 ^ (7 * i) < (c.toNat : Int) % 128 then (0, 0, 21) else if c.toNat < 128 then (v + (c.toNat : Int) % 128 * 2 ^ (7 * i), i + 2, 0) else rpT k (v + (c.toNat : Int) % 128 * 2 ^ (7 * i)) (i + 1) cs
/-- What a prefix' number reads as: the number, how many bytes, the error. -/
def rpR (xs : List UInt8) (n : Int) : Int × Int × Int :=
  match xs with
  | [] => (0, 0, 20)
  | c :: cs => if (c.toNat : Int) % 2 ^ preN n < preM n then ((c.toNat : Int) % 2 ^ preN n, 1, 0) else rpT 10 (preM n) 0 cs

theorem rpT_big {k i : Nat} {V : Int} {xs : List UInt8} (h : i + 1 < xs.length) (hb : (4611686018427387903 - V) / 2 ^ (7 * i) < (xs[i + 1].toNat : Int) % 128) : rpT (k + 1) V i (xs.drop (i + 1)) = (0, 0, 21) := by
  rw [List.drop_eq_getElem_cons h, rpT, if_pos hb]
theorem rpT_end {k i : Nat} {V : Int} {xs : List UInt8} (h : i + 1 < xs.length) (hb : (xs[i + 1].toNat : Int) % 128 ≤ (4611686018427387903 - V) / 2 ^ (7 * i)) (hc : xs[i + 1].toNat < 128) : rpT (k + 1) V i (xs.drop (i + 1)) = (V + (xs[i + 1].toNat : Int) % 128 * 2 ^ (7 * i), (i : Int) + 2, 0) := by
  rw [List.drop_eq_getElem_cons h, rpT, if_neg (by omega), if_pos hc]
theorem rpT_on {k i : Nat} {V : Int} {xs : List UInt8} (h : i + 1 < xs.length) (hb : (xs[i + 1].toNat : Int) % 128 ≤ (4611686018427387903 - V) / 2 ^ (7 * i)) (hc : ¬ xs[i + 1].toNat < 128) : rpT (k + 1) V i (xs.drop (i + 1)) = rpT k (V + (xs[i + 1].toNat : Int) % 128 * 2 ^ (7 * i)) (i + 1) (xs.drop (i + 1 + 1)) := by
  rw [List.drop_eq_getElem_cons h, rpT, if_neg (by omega), if_neg hc]
theorem rpT_nil {k i : Nat} {V : Int} {xs : List UInt8} (h : xs.length ≤ i + 1) : rpT (k + 1) V i (xs.drop (i + 1)) = (0, 0, 20) := by
  rw [List.drop_eq_nil_of_le h, rpT]

/-- The byte's seven bits, as the code has them; what they add. -/
theorem seven_wrap (c : UInt8) : IntKind.u64.wrap (bits .and .u8 (c.toNat : Int) 127) = (c.toNat : Int) % 128 := by
  have hc : c.toNat < 256 := c.toNat_lt
  rw [and8 7 (by omega) (by omega) (by omega) (by simp), IntKind.wrap_u64, show (2 : Int) ^ 7 = 128 by simp]
  omega
theorem and128 (c : UInt8) : (bits .and .u8 (c.toNat : Int) 128 == 0) = true ↔ c.toNat < 128 := by
  have hc : c.toNat < 256 := c.toNat_lt
  have key : ∀ A : Fin 256, A.val &&& 128 = if A.val < 128 then 0 else 128 := by decide +kernel
  have := key ⟨c.toNat, hc⟩
  simp only at this
  rw [show (128 : Int) = ((128 : Nat) : Int) from rfl, u8_and_nat _ 128 hc (by omega), this]
  split <;> simp_all
theorem seven_add {V d : Int} {i : Nat} (hV : 0 ≤ V) (hd : 0 ≤ d) (h : d ≤ (4611686018427387903 - V) / 2 ^ (7 * i)) : 0 ≤ d * 2 ^ (7 * i) ∧ V + d * 2 ^ (7 * i) ≤ 4611686018427387903 ∧ IntKind.u64.wrap (V + IntKind.u64.wrap (d * (2 : Int) ^ (7 * i))) = V + d * 2 ^ (7 * i) := by
  have hp : (0 : Int) < 2 ^ (7 * i) := Int.pow_pos (by omega)
  have h1 : d * 2 ^ (7 * i) ≤ (4611686018427387903 - V) / 2 ^ (7 * i) * 2 ^ (7 * i) := Int.mul_le_mul_of_nonneg_right h (Int.le_of_lt hp)
  have h2 : (4611686018427387903 - V) / 2 ^ (7 * i) * 2 ^ (7 * i) ≤ 4611686018427387903 - V := Int.ediv_mul_le _ (by omega)
  have h3 : 0 ≤ d * 2 ^ (7 * i) := Int.mul_nonneg hd (Int.le_of_lt hp)
  generalize d * 2 ^ (7 * i) = t at *
  refine ⟨h3, by omega, ?_⟩
  rw [IntKind.wrap_u64, IntKind.wrap_u64]
  omega
/-- A byte's part behind the prefix' bits. -/
theorem pre_part (c : UInt8) (n : Int) : bits .and .u64 (c.toNat : Int) (IntKind.u64.wrap (IntKind.u64.wrap ((2 : Int) ^ preN n) - 1)) = (c.toNat : Int) % 2 ^ preN n := by
  have hc : c.toNat < 256 := c.toNat_lt
  rw [preM_wrap]
  exact and64 (preN n) (by omega) (by omega) (by have := (preN_bd n).2; omega) rfl
theorem pre_part_lt (c : UInt8) (n : Int) : 0 ≤ (c.toNat : Int) % 2 ^ preN n ∧ (c.toNat : Int) % 2 ^ preN n ≤ preM n := by
  unfold preM
  rcases preN_cases n with h | h | h | h | h | h | h | h <;> rw [h] <;> simp <;> omega
theorem rpR_one {xs : List UInt8} (n : Int) (h : 0 < xs.length) (hl : (xs[0].toNat : Int) % 2 ^ preN n < preM n) : rpR xs n = ((xs[0].toNat : Int) % 2 ^ preN n, 1, 0) := by
  cases xs with
  | nil => simp at h
  | cons c cs => rw [rpR]; exact if_pos hl
theorem rpR_more {xs : List UInt8} (n : Int) (h : 0 < xs.length) (hl : preM n ≤ (xs[0].toNat : Int) % 2 ^ preN n) : rpT 10 (preM n) 0 (xs.drop 1) = rpR xs n := by
  cases xs with
  | nil => simp at h
  | cons c cs => rw [rpR]; exact (if_neg (by simp only [List.getElem_cons_zero] at hl; omega)).symm

set_option maxHeartbeats 800000 in
theorem readprefix_any (a : Option Addr) (m cap : Nat) (xs : List UInt8) (n : Int) (w : World) (hb : By w a m cap xs) :
    Calls Try.prog 12 #[.slice a m cap, .int .i64 n] w fun e w' => e = .returned (.tuple #[.int .u64 (rpR xs n).1, .int .i64 (rpR xs n).2.1, .int .i64 (rpR xs n).2.2]) ∧ w = w' := by
  have hcap := hb.2.le
  have hmax := hb.2.max
  unfold maxLen at hmax
  have HB := Lib.hid hb
  have HN := Lib.hid hb.1
  have hn1 := (preN_bd n).1
  have hn8 := (preN_bd n).2
  have HW := Lib.hid (preM_wrap n)
  have HM := Lib.hid (preM_bd n)
  clear hb
  by_cases h0 : m = 0
  · obtain rfl : xs = [] := List.eq_nil_of_length_eq_zero (by have := HN.out; omega)
    have HR : Hid (rpR [] n = (0, 0, 20)) := rfl
    subst h0
    go_enter Try.func12, Try.ntmps12
    go_wp2_with fail
    go_returns
    exact ⟨by rw [HR.out]; rfl, rfl⟩
  · obtain ⟨b, off, rfl, hblt, hcell⟩ := HB.out.get (by omega)
    have hx0 : 0 < xs.length := by have := HN.out; omega
    have hc := hcell 0 hx0
    have hc1 : xs[0].toNat < 256 := xs[0].toNat_lt
    rw [Nat.add_zero] at hc
    have HC := Lib.hid hcell
    clear hcell
    go_enter Try.func12, Try.ntmps12
    go_wp2_with fail
    refine (bitsof_any n w).mono ?_
    rintro e w' ⟨rfl, rfl⟩
    go_wp2_with fail
    · have hlt : bits .and .u64 (xs[0].toNat : Int) (IntKind.u64.wrap (IntKind.u64.wrap ((2 : Int) ^ preN n) - 1)) < IntKind.u64.wrap (IntKind.u64.wrap ((2 : Int) ^ preN n) - 1) := by assumption
      rw [pre_part, HW.out] at hlt
      have HR := Lib.hid (rpR_one n hx0 hlt)
      have HP := Lib.hid (pre_part xs[0] n)
      go_returns
      refine ⟨?_, rfl⟩
      rw [HR.out, HP.out]
      rfl
    · have hlt : IntKind.u64.wrap (IntKind.u64.wrap ((2 : Int) ^ preN n) - 1) ≤ bits .and .u64 (xs[0].toNat : Int) (IntKind.u64.wrap (IntKind.u64.wrap ((2 : Int) ^ preN n) - 1)) := by assumption
      have hlt2 : preM n ≤ (xs[0].toNat : Int) % 2 ^ preN n := by rw [pre_part, HW.out] at hlt; exact hlt
      have HP := Lib.hid (pre_part xs[0] n)
      have HL := Lib.hid hlt2
      clear hlt2
      go_loopg [8, 9] 10 (fun k vv vi wr => ∃ (i : Nat) (V : Int), k + i = 10 ∧ vi = .int .i64 ((i : Int) + 1) ∧ vv = .int .u64 V ∧ 0 ≤ V ∧ V ≤ 4611686018427387903 ∧ rpT k V i (xs.drop (i + 1)) = rpR xs n ∧ w = wr)
      case atStart =>
        have e : (xs[0].toNat : Int) % 2 ^ preN n = preM n := by have := (pre_part_lt xs[0] n).2; have := HL.out; omega
        exact ⟨0, preM n, rfl, rfl, by rw [HP.out, e], by have := HM.out; omega, by have := HM.out; omega, rpR_more n hx0 HL.out, rfl⟩
      case round =>
        obtain ⟨i, V, hi, rfl, rfl, hV0, hV1, hV, rfl⟩ := hrel
        have HV := Lib.hid hV
        have HI := Lib.hid hi
        clear hV hi
        by_cases hi : i < 10
        · obtain ⟨g, rfl⟩ : ∃ g, gk = g + 1 := ⟨gk - 1, by have := HI.out; omega⟩
          by_cases hm : i + 1 < m
          · have hix : i + 1 < xs.length := by have := HN.out; omega
            have hc := HC.out (i + 1) hix
            have hc2 : xs[i + 1].toNat < 256 := xs[i + 1].toNat_lt
            have HD := Lib.hid (seven_wrap xs[i + 1])
            go_wp2_with fail
            · have hb : (4611686018427387903 - V) / 2 ^ (7 * i) < IntKind.u64.wrap (bits .and .u8 (xs[i + 1].toNat : Int) 127) := by assumption
              rw [HD.out] at hb
              have HR : Hid (rpR xs n = (0, 0, 21)) := by show _ = _; rw [← HV.out]; exact rpT_big hix hb
              go_returns
              exact ⟨by rw [HR.out]; rfl, rfl⟩
            · have hb : IntKind.u64.wrap (bits .and .u8 (xs[i + 1].toNat : Int) 127) ≤ (4611686018427387903 - V) / 2 ^ (7 * i) := by assumption
              have hq : ((xs[i + 1].toNat : Int) / 128 == 0) = true := by assumption
              rw [HD.out] at hb
              have hq2 : (xs[i + 1].toNat : Int) / 128 = 0 := by simpa using hq
              have HA := Lib.hid (seven_add hV0 (by omega) hb)
              have HR : Hid (rpR xs n = (V + (xs[i + 1].toNat : Int) % 128 * 2 ^ (7 * i), (i : Int) + 2, 0)) := by show _ = _; rw [← HV.out]; exact rpT_end hix hb (by omega)
              go_returns
              refine ⟨?_, rfl⟩
              rw [HR.out, HD.out, HA.out.2.2]
              have e : ((i : Int) + 1 + 1) = i + 2 := by omega
              rw [e]
              rfl
            · have hb : IntKind.u64.wrap (bits .and .u8 (xs[i + 1].toNat : Int) 127) ≤ (4611686018427387903 - V) / 2 ^ (7 * i) := by assumption
              have hq : ((xs[i + 1].toNat : Int) / 128 == 0) = false := by assumption
              rw [HD.out] at hb
              have hq2 : ¬ (xs[i + 1].toNat : Int) / 128 = 0 := by simpa using hq
              have HA := Lib.hid (seven_add hV0 (by omega) hb)
              have HR : Hid (rpT g (V + (xs[i + 1].toNat : Int) % 128 * 2 ^ (7 * i)) (i + 1) (xs.drop (i + 1 + 1)) = rpR xs n) := by show _ = _; rw [← HV.out]; exact (rpT_on hix hb (by omega)).symm
              rw [HD.out, HA.out.2.2]
              go_roundg g
              case measure => omega
              case rel => exact ⟨i + 1, _, by have := HI.out; omega, by go_num, rfl, by have := HA.out; omega, HA.out.2.1, HR.out, rfl⟩
          · have HR : Hid (rpR xs n = (0, 0, 20)) := by show _ = _; rw [← HV.out]; exact rpT_nil (by have := HN.out; omega)
            go_wp2_with fail
            go_returns
            exact ⟨by rw [HR.out]; rfl, rfl⟩
        · obtain rfl : gk = 0 := by have := HI.out; omega
          have HR : Hid (rpR xs n = (0, 0, 21)) := by show _ = _; rw [← HV.out]; rfl
          go_wp2_with fail
          go_returns
          exact ⟨by rw [HR.out]; rfl, rfl⟩

set_option maxHeartbeats 800000 in
theorem readprefixr_any (a : Option Addr) (m cap : Nat) (xs : List UInt8) (n : Int) (w : World) (hb : By w a m cap xs) :
    Calls Try.prog 18 #[.slice a m cap, .int .i64 n] w fun e w' => e = .returned (.tuple #[.int .u64 (rpR xs n).1, .int .i64 (rpR xs n).2.1, .int .i64 (rpR xs n).2.2]) ∧ w = w' := by
  have hcap := hb.2.le
  have hmax := hb.2.max
  unfold maxLen at hmax
  have HB := Lib.hid hb
  have HN := Lib.hid hb.1
  have hn1 := (preN_bd n).1
  have hn8 := (preN_bd n).2
  have hp1 := atl1_eq n
  have hp2 := preN_val n
  have HW := Lib.hid (preM_wrap n)
  have HM := Lib.hid (preM_bd n)
  clear hb
  by_cases h0 : m = 0
  · obtain rfl : xs = [] := List.eq_nil_of_length_eq_zero (by have := HN.out; omega)
    have HR : Hid (rpR [] n = (0, 0, 20)) := rfl
    subst h0
    go_enter Try.func18, Try.ntmps18
    go_wp2_with fail
    go_returns
    exact ⟨by rw [HR.out]; rfl, rfl⟩
  · obtain ⟨b, off, rfl, hblt, hcell⟩ := HB.out.get (by omega)
    have hx0 : 0 < xs.length := by have := HN.out; omega
    have hc := hcell 0 hx0
    have hc1 : xs[0].toNat < 256 := xs[0].toNat_lt
    rw [Nat.add_zero] at hc
    have HC := Lib.hid hcell
    clear hcell
    go_enter Try.func18, Try.ntmps18
    go_wp2_with fail
    · have hlt : bits .and .u64 (xs[0].toNat : Int) (IntKind.u64.wrap (IntKind.u64.wrap ((2 : Int) ^ preN n) - 1)) < IntKind.u64.wrap (IntKind.u64.wrap ((2 : Int) ^ preN n) - 1) := by assumption
      rw [pre_part, HW.out] at hlt
      have HR := Lib.hid (rpR_one n hx0 hlt)
      have HP := Lib.hid (pre_part xs[0] n)
      go_returns
      refine ⟨?_, rfl⟩
      rw [HR.out, HP.out]
      rfl
    · have hlt : IntKind.u64.wrap (IntKind.u64.wrap ((2 : Int) ^ preN n) - 1) ≤ bits .and .u64 (xs[0].toNat : Int) (IntKind.u64.wrap (IntKind.u64.wrap ((2 : Int) ^ preN n) - 1)) := by assumption
      have hlt2 : preM n ≤ (xs[0].toNat : Int) % 2 ^ preN n := by rw [pre_part, HW.out] at hlt; exact hlt
      have HP := Lib.hid (pre_part xs[0] n)
      have HL := Lib.hid hlt2
      clear hlt2
      have hm0 : ((m : Int) == 0) = false := by simp; omega
      rw [hm0]
      clear hm0
      go_loopg [8, 9] 10 (fun k vv vi wr => ∃ (i : Nat) (V : Int), k + i = 10 ∧ vi = .int .i64 ((i : Int) + 1) ∧ vv = .int .u64 V ∧ 0 ≤ V ∧ V ≤ 4611686018427387903 ∧ rpT k V i (xs.drop (i + 1)) = rpR xs n ∧ w = wr)
      case atStart =>
        have e : (xs[0].toNat : Int) % 2 ^ preN n = preM n := by have := (pre_part_lt xs[0] n).2; have := HL.out; omega
        exact ⟨0, preM n, rfl, rfl, by rw [HP.out, e], by have := HM.out; omega, by have := HM.out; omega, rpR_more n hx0 HL.out, rfl⟩
      case round =>
        obtain ⟨i, V, hi, rfl, rfl, hV0, hV1, hV, rfl⟩ := hrel
        have HV := Lib.hid hV
        have HI := Lib.hid hi
        clear hV hi
        by_cases hi : i < 10
        · obtain ⟨g, rfl⟩ : ∃ g, gk = g + 1 := ⟨gk - 1, by have := HI.out; omega⟩
          by_cases hm : i + 1 < m
          · have hix : i + 1 < xs.length := by have := HN.out; omega
            have hc := HC.out (i + 1) hix
            have hc2 : xs[i + 1].toNat < 256 := xs[i + 1].toNat_lt
            have HD := Lib.hid (seven_wrap xs[i + 1])
            by_cases hi9 : i < 9
            · go_wp2_with fail
              · have hb : (4611686018427387903 - V) / 2 ^ (7 * i) < IntKind.u64.wrap (bits .and .u8 (xs[i + 1].toNat : Int) 127) := by assumption
                rw [HD.out] at hb
                have HR : Hid (rpR xs n = (0, 0, 21)) := by show _ = _; rw [← HV.out]; exact rpT_big hix hb
                go_returns
                exact ⟨by rw [HR.out]; rfl, rfl⟩
              · have hb : IntKind.u64.wrap (bits .and .u8 (xs[i + 1].toNat : Int) 127) ≤ (4611686018427387903 - V) / 2 ^ (7 * i) := by assumption
                have hq : (bits .and .u8 (xs[i + 1].toNat : Int) 128 == 0) = true := by assumption
                rw [HD.out] at hb
                have HA := Lib.hid (seven_add hV0 (by omega) hb)
                have HR : Hid (rpR xs n = (V + (xs[i + 1].toNat : Int) % 128 * 2 ^ (7 * i), (i : Int) + 2, 0)) := by show _ = _; rw [← HV.out]; exact rpT_end hix hb ((and128 _).1 hq)
                go_returns
                refine ⟨?_, rfl⟩
                rw [HR.out, HD.out, HA.out.2.2]
                have e : ((i : Int) + 1 + 1) = i + 2 := by omega
                rw [e]
                rfl
              · have hb : IntKind.u64.wrap (bits .and .u8 (xs[i + 1].toNat : Int) 127) ≤ (4611686018427387903 - V) / 2 ^ (7 * i) := by assumption
                have hq : (bits .and .u8 (xs[i + 1].toNat : Int) 128 == 0) = false := by assumption
                rw [HD.out] at hb
                have HA := Lib.hid (seven_add hV0 (by omega) hb)
                have HR : Hid (rpT g (V + (xs[i + 1].toNat : Int) % 128 * 2 ^ (7 * i)) (i + 1) (xs.drop (i + 1 + 1)) = rpR xs n) := by show _ = _; rw [← HV.out]; exact (rpT_on hix hb (fun h => by rw [(and128 _).2 h] at hq; cases hq)).symm
                rw [HD.out, HA.out.2.2]
                go_roundg g
                case measure => omega
                case rel => exact ⟨i + 1, _, by have := HI.out; omega, by go_num, rfl, by have := HA.out; omega, HA.out.2.1, HR.out, rfl⟩
            · obtain rfl : i = 9 := by omega
              have HZ : Hid ((4611686018427387903 - V) / 2 ^ (7 * 9) = 0) := by show _ = _; simp; omega
              go_wp2_with fail
              · have hb : IntKind.u64.wrap (bits .and .u8 (xs[9 + 1].toNat : Int) 127) ≤ 0 := by assumption
                have hq : (bits .and .u8 (xs[9 + 1].toNat : Int) 128 == 0) = true := by assumption
                rw [HD.out] at hb
                have h0 : (xs[9 + 1].toNat : Int) % 128 = 0 := by omega
                have HR : Hid (rpR xs n = (V, ((9 : Nat) : Int) + 2, 0)) := by
                  show _ = _
                  rw [← HV.out, rpT_end hix (by rw [HZ.out]; omega) ((and128 _).1 hq), h0, Int.zero_mul, Int.add_zero]
                go_returns
                exact ⟨by rw [HR.out]; rfl, rfl⟩
              · have hb : IntKind.u64.wrap (bits .and .u8 (xs[9 + 1].toNat : Int) 127) ≤ 0 := by assumption
                have hq : (bits .and .u8 (xs[9 + 1].toNat : Int) 128 == 0) = false := by assumption
                rw [HD.out] at hb
                have h0 : (xs[9 + 1].toNat : Int) % 128 = 0 := by omega
                have HR : Hid (rpT g V (9 + 1) (xs.drop (9 + 1 + 1)) = rpR xs n) := by
                  show _ = _
                  rw [← HV.out, rpT_on hix (by rw [HZ.out]; omega) (fun h => by rw [(and128 _).2 h] at hq; cases hq), h0, Int.zero_mul, Int.add_zero]
                go_roundg g
                case measure => omega
                case rel => exact ⟨9 + 1, _, by have := HI.out; omega, by go_num, rfl, hV0, hV1, HR.out, rfl⟩
              · have hb : 0 < IntKind.u64.wrap (bits .and .u8 (xs[9 + 1].toNat : Int) 127) := by assumption
                rw [HD.out] at hb
                have HR : Hid (rpR xs n = (0, 0, 21)) := by show _ = _; rw [← HV.out]; exact rpT_big hix (by rw [HZ.out]; omega)
                go_returns
                exact ⟨by rw [HR.out]; rfl, rfl⟩
          · have HR : Hid (rpR xs n = (0, 0, 20)) := by show _ = _; rw [← HV.out]; exact rpT_nil (by have := HN.out; omega)
            go_wp2_with fail
            go_returns
            exact ⟨by rw [HR.out]; rfl, rfl⟩
        · obtain rfl : gk = 0 := by have := HI.out; omega
          have HR : Hid (rpR xs n = (0, 0, 21)) := by show _ = _; rw [← HV.out]; rfl
          go_wp2_with fail
          go_returns
          exact ⟨by rw [HR.out]; rfl, rfl⟩

end Go.Proofs.Ytffffgpahdkngaa
