/- Big and ReadBig, VarLen of the packages num and bifoldref1. -/
import Derived.Test.YtcfljnlfikkhaaaBits
namespace Go.Proofs.Ytcfljnlfikkhaaa
open Go.RowKit Go.Deep

/-- The lowest k bytes of v, the highest first. -/
def bigD (v : Int) : Nat → List UInt8
  | 0 => []
  | k + 1 => byt (v / 2 ^ (8 * k)) :: bigD v k
theorem bigD_length (v : Int) (k : Nat) : (bigD v k).length = k := by induction k with
  | zero => rfl
  | succ k ih => simp [bigD, ih]

/-- n, as a number of bytes. -/
def pos (n : Int) : Int := if n < 0 then 0 else n
theorem pos_eq (n : Int) : (if n < 0 then 0 else n) = pos n := rfl
def cnt (n : Int) : Nat := (if 8 < pos n then 8 else pos n).toNat
theorem cnt_le (n : Int) : cnt n ≤ 8 := by unfold cnt pos; (repeat' split) <;> omega
theorem cnt_val (n : Int) : (if 8 < pos n then 8 else pos n) = ((cnt n : Nat) : Int) := by unfold cnt pos; (repeat' split) <;> omega

/-- The number that bytes are, the highest first. -/
def numF (acc : Int) : List UInt8 → Int
  | [] => acc
  | c :: cs => numF (IntKind.u64.wrap (acc * 256) + c.toNat) cs

/-- What a number of n bytes reads as, at the head of xs; whether it can be read. -/
def rbOK (len : Nat) (n : Int) : Bool := decide (0 ≤ n ∧ n ≤ 8 ∧ n ≤ len)
def rbV (xs : List UInt8) (n : Int) : Int := if rbOK xs.length n then numF 0 (xs.take n.toNat) else 0

set_option maxHeartbeats 400000 in
theorem readbig_any (a : Option Addr) (m cap : Nat) (xs : List UInt8) (n : Int) (w : World) (hb : By w a m cap xs) :
    Calls Try.prog 30 #[.slice a m cap, .int .i64 n] w fun e w' => e = .returned (.tuple #[.int .u64 (rbV xs n), .bool (rbOK m n)]) ∧ w = w' := by
  have hcap := hb.2.le
  have hmax := hb.2.max
  unfold maxLen at hmax
  have HB := Lib.hid hb
  have HN := Lib.hid hb.1
  clear hb
  by_cases hbad : n < 0 ∨ 8 < n ∨ (m : Int) < n
  · have HE : Hid (rbOK m n = false) := by show _ = _; simp only [rbOK, decide_eq_false_iff_not]; omega
    have HV : Hid (rbV xs n = 0) := by show _ = _; unfold rbV; rw [← HN.out, HE.out]; rfl
    rcases hbad with h | h | h
    · go_enter Try.func30, Try.ntmps30
      go_wp2_with fail
      go_returns
      exact ⟨by rw [HE.out, HV.out]; rfl, rfl⟩
    · go_enter Try.func30, Try.ntmps30
      go_wp2_with fail
      go_returns
      exact ⟨by rw [HE.out, HV.out]; rfl, rfl⟩
    · by_cases h1 : n < 0
      · omega
      · by_cases h2 : 8 < n
        · go_enter Try.func30, Try.ntmps30
          go_wp2_with fail
          go_returns
          exact ⟨by rw [HE.out, HV.out]; rfl, rfl⟩
        · go_enter Try.func30, Try.ntmps30
          go_wp2_with fail
          go_returns
          exact ⟨by rw [HE.out, HV.out]; rfl, rfl⟩
  · have HE : Hid (rbOK m n = true) := by show _ = _; simp only [rbOK, decide_eq_true_eq]; omega
    obtain ⟨k, rfl⟩ : ∃ k : Nat, n = k := ⟨n.toNat, by omega⟩
    have hk : k ≤ m := by omega
    have hk8 : k ≤ 8 := by omega
    have HV : Hid (rbV xs k = numF 0 (xs.take k)) := by show _ = _; unfold rbV; rw [← HN.out, HE.out]; rfl
    go_enter Try.func30, Try.ntmps30
    go_wp2_with fail
    go_loopg [6, 25] k (fun g vv vi wr => ∃ (i : Nat) (V : Int), g + i = k ∧ vi = .int .i64 i ∧ vv = .int .u64 V ∧ 0 ≤ V ∧ V ≤ 18446744073709551615 ∧ numF V ((xs.take k).drop i) = numF 0 (xs.take k) ∧ w = wr)
    case atStart => exact ⟨0, 0, by omega, rfl, rfl, by omega, by omega, by simp, rfl⟩
    case round =>
      obtain ⟨i, V, hi, rfl, rfl, hV0, hV1, hV, rfl⟩ := hrel
      have HI := Lib.hid hi
      have HVV := Lib.hid hV
      clear hi hV
      by_cases hik : i < k
      · obtain ⟨b, off, rfl, hblt, hcell⟩ := HB.out.get (by omega)
        have hix : i < xs.length := by have := HN.out; omega
        have hc := hcell i hix
        have hc0 : (0 : Int) ≤ (xs[i].toNat : Int) := by omega
        have hc1 : (xs[i].toNat : Int) < 256 := by have := xs[i].toNat_lt; omega
        clear hcell
        have hor : bits .or .u64 (IntKind.u64.wrap (V * 256)) (xs[i].toNat : Int) = IntKind.u64.wrap (V * 256) + (xs[i].toNat : Int) := by
          have hw : IntKind.u64.wrap (V * 256) = V * 256 % 18446744073709551616 := IntKind.wrap_u64 _
          rw [hw]
          exact or64 8 (by omega) (by omega) (by omega) hc0 (by omega) (by omega)
        have hwb : 0 ≤ IntKind.u64.wrap (V * 256) + (xs[i].toNat : Int) ∧ IntKind.u64.wrap (V * 256) + (xs[i].toNat : Int) ≤ 18446744073709551615 := by
          have hw : IntKind.u64.wrap (V * 256) = V * 256 % 18446744073709551616 := IntKind.wrap_u64 _
          rw [hw]
          omega
        have HOR := Lib.hid hor
        have HWB := Lib.hid hwb
        clear hor hwb
        go_wp2_with fail
        obtain ⟨k', rfl⟩ : ∃ k', gk = k' + 1 := ⟨gk - 1, by have := HI.out; omega⟩
        rw [HOR.out]
        go_roundg k'
        case measure => omega
        case rel =>
          refine ⟨i + 1, _, by have := HI.out; omega, by go_num, rfl, HWB.out.1, HWB.out.2, ?_, rfl⟩
          rw [← HVV.out, List.drop_eq_getElem_cons (l := xs.take k) (i := i) (by simp; omega), numF]
          simp
      · go_wp2_with fail
        go_returns
        refine ⟨?_, rfl⟩
        have e : V = numF 0 (xs.take k) := by
          have := HVV.out
          rwa [List.drop_eq_nil_of_le (by simp; omega), numF] at this
        rw [HE.out, HV.out, ← e]
        rfl

set_option maxHeartbeats 400000 in
theorem readbigr_any (a : Option Addr) (m cap : Nat) (xs : List UInt8) (n : Int) (w : World) (hb : By w a m cap xs) :
    Calls Try.prog 25 #[.slice a m cap, .int .i64 n] w fun e w' => e = .returned (.tuple #[.int .u64 (rbV xs n), .bool (rbOK m n)]) ∧ w = w' := by
  have hcap := hb.2.le
  have hmax := hb.2.max
  unfold maxLen at hmax
  have HB := Lib.hid hb
  have HN := Lib.hid hb.1
  clear hb
  by_cases hbad : n < 0 ∨ 8 < n ∨ (m : Int) < n
  · have HE : Hid (rbOK m n = false) := by show _ = _; simp only [rbOK, decide_eq_false_iff_not]; omega
    have HV : Hid (rbV xs n = 0) := by show _ = _; unfold rbV; rw [← HN.out, HE.out]; rfl
    rcases hbad with h | h | h
    · go_enter Try.func25, Try.ntmps25
      go_wp2_with fail
      go_returns
      exact ⟨by rw [HE.out, HV.out]; rfl, rfl⟩
    · go_enter Try.func25, Try.ntmps25
      go_wp2_with fail
      go_returns
      exact ⟨by rw [HE.out, HV.out]; rfl, rfl⟩
    · by_cases h1 : n < 0
      · omega
      · by_cases h2 : 8 < n
        · go_enter Try.func25, Try.ntmps25
          go_wp2_with fail
          go_returns
          exact ⟨by rw [HE.out, HV.out]; rfl, rfl⟩
        · go_enter Try.func25, Try.ntmps25
          go_wp2_with fail
          go_returns
          exact ⟨by rw [HE.out, HV.out]; rfl, rfl⟩
  · have HE : Hid (rbOK m n = true) := by show _ = _; simp only [rbOK, decide_eq_true_eq]; omega
    obtain ⟨k, rfl⟩ : ∃ k : Nat, n = k := ⟨n.toNat, by omega⟩
    have hk : k ≤ m := by omega
    have hk8 : k ≤ 8 := by omega
    have HV : Hid (rbV xs k = numF 0 (xs.take k)) := by show _ = _; unfold rbV; rw [← HN.out, HE.out]; rfl
    go_enter Try.func25, Try.ntmps25
    go_wp2_with fail
    go_loopg [6, 7] k (fun g vv vi wr => ∃ (i : Nat) (V : Int), g + i = k ∧ vi = .int .i64 i ∧ vv = .int .u64 V ∧ 0 ≤ V ∧ V ≤ 18446744073709551615 ∧ numF V ((xs.take k).drop i) = numF 0 (xs.take k) ∧ w = wr)
    case atStart => exact ⟨0, 0, by omega, rfl, rfl, by omega, by omega, by simp, rfl⟩
    case round =>
      obtain ⟨i, V, hi, rfl, rfl, hV0, hV1, hV, rfl⟩ := hrel
      have HI := Lib.hid hi
      have HVV := Lib.hid hV
      clear hi hV
      by_cases hik : i < k
      · obtain ⟨b, off, rfl, hblt, hcell⟩ := HB.out.get (by omega)
        have hix : i < xs.length := by have := HN.out; omega
        have hc := hcell i hix
        have hc0 : (0 : Int) ≤ (xs[i].toNat : Int) := by omega
        have hc1 : (xs[i].toNat : Int) < 256 := by have := xs[i].toNat_lt; omega
        clear hcell
        have hor : bits .or .u64 (IntKind.u64.wrap (V * 256)) (xs[i].toNat : Int) = IntKind.u64.wrap (V * 256) + (xs[i].toNat : Int) := by
          have hw : IntKind.u64.wrap (V * 256) = V * 256 % 18446744073709551616 := IntKind.wrap_u64 _
          rw [hw]
          exact or64 8 (by omega) (by omega) (by omega) hc0 (by omega) (by omega)
        have hwb : 0 ≤ IntKind.u64.wrap (V * 256) + (xs[i].toNat : Int) ∧ IntKind.u64.wrap (V * 256) + (xs[i].toNat : Int) ≤ 18446744073709551615 := by
          have hw : IntKind.u64.wrap (V * 256) = V * 256 % 18446744073709551616 := IntKind.wrap_u64 _
          rw [hw]
          omega
        have HOR := Lib.hid hor
        have HWB := Lib.hid hwb
        clear hor hwb
        go_wp2_with fail
        obtain ⟨k', rfl⟩ : ∃ k', gk = k' + 1 := ⟨gk - 1, by have := HI.out; omega⟩
        rw [HOR.out]
        go_roundg k'
        case measure => omega
        case rel =>
          refine ⟨i + 1, _, by have := HI.out; omega, by go_num, rfl, HWB.out.1, HWB.out.2, ?_, rfl⟩
          rw [← HVV.out, List.drop_eq_getElem_cons (l := xs.take k) (i := i) (by simp; omega), numF]
          simp
      · go_wp2_with fail
        go_returns
        refine ⟨?_, rfl⟩
        have e : V = numF 0 (xs.take k) := by
          have := HVV.out
          rwa [List.drop_eq_nil_of_le (by simp; omega), numF] at this
        rw [HE.out, HV.out, ← e]
        rfl

def varLenV (v : Int) : Int := if v < 64 then 1 else if v < 16384 then 2 else if v < 1073741824 then 4 else if v ≤ 4611686018427387903 then 8 else 0

end Go.Proofs.Ytcfljnlfikkhaaa
