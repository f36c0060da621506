/- Big and ReadBig, VarLen of the packages num and bifoldref1. -/
import Derived.Test.YtgfkgmmigbpciaaBits
namespace Go.Proofs.Ytgfkgmmigbpciaa
set_option linter.unusedSimpArgs false
set_option linter.unusedVariables false
open Go.RowKit Go.Deep

/-- The lowest k bytes of v, the highest first. -/
def bigD (v : Int) : Nat → List UInt8
 | 0 => []
 | k + 1 => byt (v / 2 ^ (8 * k)) :: bigD v k
theorem bigD_length (v : Int) (k : Nat) : (bigD v k).length = k := by induction k with
 | zero => rfl
 | succ k ih => simp [bigD, ih]

/-- n, as a number of bytes. -/
def pos (n : Int) : Int := if n < 0 then 0 else n
theorem pos_eq (n : Int) : (if n < 0 then 0 else n) = pos n := rfl
def cnt (n : Int) : Nat := (if 8 < pos n then 8 else pos n).toNat
theorem cnt_le (n : Int) : cnt n ≤ 8 := by unfold cnt pos; (repeat' split) <;> omega
theorem cnt_val (n : Int) : (if 8 < pos n then 8 else pos n) = ((cnt n : Nat) : Int) := by unfold cnt pos; (repeat' split) <;> omega

set_option maxHeartbeats 400000 in
theorem big_any (a : Option Addr) (m cap : Nat) (xs : List UInt8) (v n : Int) (w : World) (hb : By w a m cap xs) (hl : m ≤ 1099511627776) (hv0 : 0 ≤ v) (hv1 : v ≤ 18446744073709551615) :
  Calls Try.prog 62 #[.slice a m cap, .int .u64 v, .int .i64 n] w fun e w' => ∃ a' cap', e = .returned (.slice a' (m + cnt n) cap') ∧ Bo w.heap.size w' a' (m + cnt n) cap' (xs ++ bigD v (cnt n)) ∧ Below w.heap.size w w' := by
 have HB := Lib.hid hb
 have hpn := pos_eq n
 have hcn := cnt_val n
 have hc8 := cnt_le n
 clear hb
 go_enter Try.func62, Try.ntmps62
 go_wp2_with (at_builtin; refine halt ?_)
 refine Halted.go (wpList_copy8 w rfl _ rfl a m cap xs rfl HB.out (by omega) ?_)
 intro a1 c1 w1 ho1 hk1
 have HO1 := Lib.hid ho1
 have HK1 := Lib.hid hk1
 clear ho1 hk1
 go_wp2_with fail
 go_loopg [7, 8] (cnt n) (fun k vo vi wr => ∃ (j : Nat) (a' : Option Addr) (cap' : Nat) (zs : List UInt8), k = j ∧ vi = .int .i64 ((j : Int) - 1) ∧ vo = .slice a' zs.length cap' ∧ zs ++ bigD v j = xs ++ bigD v (cnt n) ∧ j ≤ cnt n ∧ zs.length + j = m + cnt n ∧ Bo w.heap.size wr a' zs.length cap' zs ∧ Below w.heap.size w wr)
 case atStart => exact ⟨cnt n, a1, c1, xs, rfl, rfl, by rw [← HB.out.1], rfl, by omega, by rw [← HB.out.1], by rw [← HB.out.1]; exact HO1.out, HK1.out⟩
 case round =>
  obtain ⟨j, a2, c2, zs, rfl, rfl, rfl, hz, hj, hlen, ho, hk⟩ := hrel
  have HZ := Lib.hid hz
  have HO := Lib.hid ho
  have HK := Lib.hid hk
  have HLEN := Lib.hid hlen
  clear hz ho hk hlen
  cases gk with
  | zero =>
   go_wp2_with fail
   go_returns
   have hz := HZ.out
   have hn := HLEN.out
   simp only [bigD, List.append_nil, Nat.add_zero] at hz hn
   refine ⟨a2, c2, by rw [← hn]; rfl, ?_, HK.out⟩
   rw [← hz, ← hn]
   exact HO.out
  | succ j =>
   have hj0 : (0 : Int) ≤ ((j + 1 : Nat) : Int) - 1 := by omega
   go_wp2_with (at_builtin; refine halt ?_)
   refine Halted.go (wpList_push8 wr rfl _ _ (byt (v / 2 ^ (8 * j))) _ (B_byt _) rfl w.heap.size a2 _ c2 zs rfl HO.out.bd rfl (by have := HLEN.out; omega) HK.out.size ?_)
   intro a3 c3 w3 ho3 hk3 hf3
   have HO3 := Lib.hid ho3
   have HK3 := Lib.hid (Keeps.below HK.out hk3 HK.out.size (fun k h => h.1))
   clear ho3 hk3 hf3
   go_wp2_with fail
   go_roundg j
   case measure => omega
   case rel =>
    refine ⟨j, a3, c3, zs ++ [byt (v / 2 ^ (8 * j))], rfl, by go_num, by simp, ?_, by omega, by have := HLEN.out; simp; omega, ?_, HK3.out⟩
    ·rw [← HZ.out, bigD]; simp
    ·have := HO3.out; rwa [show (zs ++ [byt (v / 2 ^ (8 * j))]).length = zs.length + 1 by simp]

set_option maxHeartbeats 400000 in
theorem bigr_any (base : Nat) (a : Option Addr) (m cap : Nat) (xs : List UInt8) (v n : Int) (w : World) (hd : Bd base w a m cap xs) (hbase : base ≤ w.heap.size) (hl : m ≤ 1099511627776) (hv0 : 0 ≤ v) (hv1 : v ≤ 18446744073709551615) :
  Calls Try.prog 55 #[.slice a m cap, .int .u64 v, .int .i64 n] w fun e w' => ∃ a' cap', e = .returned (.slice a' (m + cnt n) cap') ∧ Bd base w' a' (m + cnt n) cap' (xs ++ bigD v (cnt n)) ∧
   Keeps (mine base a) w w' ∧ Near base w a a' := by
 have HD := Lib.hid hd
 have hpn := pos_eq n
 have hcn := cnt_val n
 have hc8 := cnt_le n
 clear hd
 go_enter Try.func55, Try.ntmps55
 go_wp2_with fail
 go_loopg [0, 7] (cnt n) (fun k vo vi wr => ∃ (j : Nat) (a' : Option Addr) (cap' : Nat) (zs : List UInt8), k = j ∧ vi = .int .i64 ((j : Int) - 1) ∧ vo = .slice a' zs.length cap' ∧ zs ++ bigD v j = xs ++ bigD v (cnt n) ∧ j ≤ cnt n ∧ zs.length + j = m + cnt n ∧ Bd base wr a' zs.length cap' zs ∧ Keeps (mine base a) w wr ∧ Near base w a a')
 case atStart => exact ⟨cnt n, a, cap, xs, rfl, rfl, by rw [← HD.out.1], rfl, by omega, by rw [← HD.out.1], by rw [← HD.out.1]; exact HD.out, Keeps.refl _ _, Near.refl _ _ _⟩
 case round =>
  obtain ⟨j, a2, c2, zs, rfl, rfl, rfl, hz, hj, hlen, ho, hk, hf⟩ := hrel
  have HZ := Lib.hid hz
  have HO := Lib.hid ho
  have HK := Lib.hid hk
  have HF := Lib.hid hf
  have HLEN := Lib.hid hlen
  clear hz ho hk hlen hf
  cases gk with
  | zero =>
   go_wp2_with fail
   go_returns
   have hz := HZ.out
   have hn := HLEN.out
   simp only [bigD, List.append_nil, Nat.add_zero] at hz hn
   refine ⟨a2, c2, by rw [← hn]; rfl, ?_, HK.out, HF.out⟩
   rw [← hz, ← hn]
   exact HO.out
  | succ j =>
   have hj0 : (0 : Int) ≤ ((j + 1 : Nat) : Int) - 1 := by omega
   go_wp2_with (at_builtin; refine halt ?_)
   have hbs : base ≤ wr.heap.size := by have := HK.out.size; omega
   refine Halted.go (wpList_push8 wr rfl _ _ (byt (v / 2 ^ (8 * j))) _ (B_byt _) rfl base a2 _ c2 zs rfl HO.out rfl (by have := HLEN.out; omega) hbs ?_)
   intro a3 c3 w3 ho3 hk3 hf3
   have HO3 := Lib.hid ho3
   have HK3 := Lib.hid (Keeps.step HK.out HF.out hk3)
   have HF3 := Lib.hid (Near.step HF.out HK.out hf3)
   clear ho3 hk3 hf3 hbs
   go_wp2_with fail
   go_roundg j
   case measure => omega
   case rel =>
    refine ⟨j, a3, c3, zs ++ [byt (v / 2 ^ (8 * j))], rfl, by go_num, by simp, ?_, by omega, by have := HLEN.out; simp; omega, ?_, HK3.out, HF3.out⟩
    ·rw [← HZ.out, bigD]; simp
    ·have := HO3.out.bd; rwa [show (zs ++ [byt (v / 2 ^ (8 * j))]).length = zs.length + 1 by simp]

/-- The number that bytes are, the highest first. -/
def numF (acc : Int) : List UInt8 → Int
 | [] => acc
 | c :: cs => numF (IntKind.u64.wrap (acc * 256) + c.toNat) cs

/-- What a number of n bytes reads as, at the head of xs; whether it can be read. -/
def rbOK (len : Nat) (n : Int) : Bool := decide (0 ≤ n ∧ n ≤ 8 ∧ n ≤ len)
def rbV (xs : List UInt8) (n : Int) : Int := if rbOK xs.length n then numF 0 (xs.take n.toNat) else 0

set_option maxHeartbeats 400000 in
theorem readbig_any (a : Option Addr) (m cap : Nat) (xs : List UInt8) (n : Int) (w : World) (hb : By w a m cap xs) :
  Calls Try.prog 63 #[.slice a m cap, .int .i64 n] w fun e w' => e = .returned (.tuple #[.int .u64 (rbV xs n), .bool (rbOK m n)]) ∧ w = w' := by
 have hcap := hb.2.le
 have hmax := hb.2.max
 unfold maxLen at hmax
 have HB := Lib.hid hb
 have HN := Lib.hid hb.1
 clear hb
 by_cases hbad : n < 0 ∨ 8 < n ∨ (m : Int) < n
 ·have HE : Hid (rbOK m n = false) := by show _ = _; simp only [rbOK, decide_eq_false_iff_not]; omega
  have HV : Hid (rbV xs n = 0) := by show _ = _; unfold rbV; rw [← HN.out, HE.out]; rfl
  rcases hbad with h | h | h
  ·go_enter Try.func63, Try.ntmps63
   go_wp2_with fail
   go_returns
   exact ⟨by rw [HE.out, HV.out]; rfl, rfl⟩
  ·go_enter Try.func63, Try.ntmps63
   go_wp2_with fail
   go_returns
   exact ⟨by rw [HE.out, HV.out]; rfl, rfl⟩
  ·by_cases h1 : n < 0
   ·omega
   ·by_cases h2 : 8 < n
    ·go_enter Try.func63, Try.ntmps63
     go_wp2_with fail
     go_returns
     exact ⟨by rw [HE.out, HV.out]; rfl, rfl⟩
    ·go_enter Try.func63, Try.ntmps63
     go_wp2_with fail
     go_returns
     exact ⟨by rw [HE.out, HV.out]; rfl, rfl⟩
 ·have HE : Hid (rbOK m n = true) := by show _ = _; simp only [rbOK, decide_eq_true_eq]; omega
  obtain ⟨k, rfl⟩ : ∃ k : Nat, n = k := ⟨n.toNat, by omega⟩
  have hk : k ≤ m := by omega
  have hk8 : k ≤ 8 := by omega
  have HV : Hid (rbV xs k = numF 0 (xs.take k)) := by show _ = _; unfold rbV; rw [← HN.out, HE.out]; rfl
  go_enter Try.func63, Try.ntmps63
  go_wp2_with fail
  go_loopg [6, 25] k (fun g vv vi wr => ∃ (i : Nat) (V : Int), g + i = k ∧ vi = .int .i64 i ∧ vv = .int .u64 V ∧ 0 ≤ V ∧ V ≤ 18446744073709551615 ∧ numF V ((xs.take k).drop i) = numF 0 (xs.take k) ∧ w = wr)
  case atStart => exact ⟨0, 0, by omega, rfl, rfl, by omega, by omega, by simp, rfl⟩
  case round =>
   obtain ⟨i, V, hi, rfl, rfl, hV0, hV1, hV, rfl⟩ := hrel
   have HI := Lib.hid hi
   have HVV := Lib.hid hV
   clear hi hV
   by_cases hik : i < k
   ·obtain ⟨b, off, rfl, hblt, hcell⟩ := HB.out.get (by omega)
    have hix : i < xs.length := by have := HN.out; omega
    have hc := hcell i hix
    have hc0 : (0 : Int) ≤ (xs[i].toNat : Int) := by omega
    have hc1 : (xs[i].toNat : Int) < 256 := by have := xs[i].toNat_lt; omega
    clear hcell
    have hor : bits .or .u64 (IntKind.u64.wrap (V * 256)) (xs[i].toNat : Int) = IntKind.u64.wrap (V * 256) + (xs[i].toNat : Int) := by
     have hw : IntKind.u64.wrap (V * 256) = V * 256 % 18446744073709551616 := IntKind.wrap_u64 _
     rw [hw]
     exact or64 8 (by omega) (by omega) (by omega) hc0 (by omega) (by omega)
    have hwb : 0 ≤ IntKind.u64.wrap (V * 256) + (xs[i].toNat : Int) ∧ IntKind.u64.wrap (V * 256) + (xs[i].toNat : Int) ≤ 18446744073709551615 := by
     have hw : IntKind.u64.wrap (V * 256) = V * 256 % 18446744073709551616 := IntKind.wrap_u64 _
     rw [hw]
     omega
    have HOR := Lib.hid hor
    have HWB := Lib.hid hwb
    clear hor hwb
    go_wp2_with fail
    obtain ⟨k', rfl⟩ : ∃ k', gk = k' + 1 := ⟨gk - 1, by have := HI.out; omega⟩
    rw [HOR.out]
    go_roundg k'
    case measure => omega
    case rel =>
     refine ⟨i + 1, _, by have := HI.out; omega, by go_num, rfl, HWB.out.1, HWB.out.2, ?_, rfl⟩
     rw [← HVV.out, List.drop_eq_getElem_cons (l := xs.take k) (i := i) (by simp; omega), numF]
     simp
   ·go_wp2_with fail
    go_returns
    refine ⟨?_, rfl⟩
    have e : V = numF 0 (xs.take k) := by
     have := HVV.out
     rwa [List.drop_eq_nil_of_le (by simp; omega), numF] at this
    rw [HE.out, HV.out, ← e]
    rfl

set_option maxHeartbeats 400000 in
theorem readbigr_any (a : Option Addr) (m cap : Nat) (xs : List UInt8) (n : Int) (w : World) (hb : By w a m cap xs) :
  Calls Try.prog 61 #[.slice a m cap, .int .i64 n] w fun e w' => e = .returned (.tuple #[.int .u64 (rbV xs n), .bool (rbOK m n)]) ∧ w = w' := by
 have hcap := hb.2.le
 have hmax := hb.2.max
 unfold maxLen at hmax
 have HB := Lib.hid hb
 have HN := Lib.hid hb.1
 clear hb
 by_cases hbad : n < 0 ∨ 8 < n ∨ (m : Int) < n
 ·have HE : Hid (rbOK m n = false) := by show _ = _; simp only [rbOK, decide_eq_false_iff_not]; omega
  have HV : Hid (rbV xs n = 0) := by show _ = _; unfold rbV; rw [← HN.out, HE.out]; rfl
  rcases hbad with h | h | h
  ·go_enter Try.func61, Try.ntmps61
   go_wp2_with fail
   go_returns
   exact ⟨by rw [HE.out, HV.out]; rfl, rfl⟩
  ·go_enter Try.func61, Try.ntmps61
   go_wp2_with fail
   go_returns
   exact ⟨by rw [HE.out, HV.out]; rfl, rfl⟩
  ·by_cases h1 : n < 0
   ·omega
   ·by_cases h2 : 8 < n
    ·go_enter Try.func61, Try.ntmps61
     go_wp2_with fail
     go_returns
     exact ⟨by rw [HE.out, HV.out]; rfl, rfl⟩
    ·go_enter Try.func61, Try.ntmps61
     go_wp2_with fail
     go_returns
     exact ⟨by rw [HE.out, HV.out]; rfl, rfl⟩
 ·have HE : Hid (rbOK m n = true) := by show _ = _; simp only [rbOK, decide_eq_true_eq]; omega
  obtain ⟨k, rfl⟩ : ∃ k : Nat, n = k := ⟨n.toNat, by omega⟩
  have hk : k ≤ m := by omega
  have hk8 : k ≤ 8 := by omega
  have HV : Hid (rbV xs k = numF 0 (xs.take k)) := by show _ = _; unfold rbV; rw [← HN.out, HE.out]; rfl
  go_enter Try.func61, Try.ntmps61
  go_wp2_with fail
  go_loopg [6, 7] k (fun g vv vi wr => ∃ (i : Nat) (V : Int), g + i = k ∧ vi = .int .i64 i ∧ vv = .int .u64 V ∧ 0 ≤ V ∧ V ≤ 18446744073709551615 ∧ numF V ((xs.take k).drop i) = numF 0 (xs.take k) ∧ w = wr)
  case atStart => exact ⟨0, 0, by omega, rfl, rfl, by omega, by omega, by simp, rfl⟩
  case round =>
   obtain ⟨i, V, hi, rfl, rfl, hV0, hV1, hV, rfl⟩ := hrel
   have HI := Lib.hid hi
   have HVV := Lib.hid hV
   clear hi hV
   by_cases hik : i < k
   ·obtain ⟨b, off, rfl, hblt, hcell⟩ := HB.out.get (by omega)
    have hix : i < xs.length := by have := HN.out; omega
    have hc := hcell i hix
    have hc0 : (0 : Int) ≤ (xs[i].toNat : Int) := by omega
    have hc1 : (xs[i].toNat : Int) < 256 := by have := xs[i].toNat_lt; omega
    clear hcell
    have hor : bits .or .u64 (IntKind.u64.wrap (V * 256)) (xs[i].toNat : Int) = IntKind.u64.wrap (V * 256) + (xs[i].toNat : Int) := by
     have hw : IntKind.u64.wrap (V * 256) = V * 256 % 18446744073709551616 := IntKind.wrap_u64 _
     rw [hw]
     exact or64 8 (by omega) (by omega) (by omega) hc0 (by omega) (by omega)
    have hwb : 0 ≤ IntKind.u64.wrap (V * 256) + (xs[i].toNat : Int) ∧ IntKind.u64.wrap (V * 256) + (xs[i].toNat : Int) ≤ 18446744073709551615 := by
     have hw : IntKind.u64.wrap (V * 256) = V * 256 % 18446744073709551616 := IntKind.wrap_u64 _
     rw [hw]
     omega
    have HOR := Lib.hid hor
    have HWB := Lib.hid hwb
    clear hor hwb
    go_wp2_with fail
    obtain ⟨k', rfl⟩ : ∃ k', gk = k' + 1 := ⟨gk - 1, by have := HI.out; omega⟩
    rw [HOR.out]
    go_roundg k'
    case measure => omega
    case rel =>
     refine ⟨i + 1, _, by have := HI.out; omega, by go_num, rfl, HWB.out.1, HWB.out.2, ?_, rfl⟩
     rw [← HVV.out, List.drop_eq_getElem_cons (l := xs.take k) (i := i) (by simp; omega), numF]
     simp
   ·go_wp2_with fail
    go_returns
    refine ⟨?_, rfl⟩
    have e : V = numF 0 (xs.take k) := by
     have := HVV.out
     rwa [List.drop_eq_nil_of_le (by simp; omega), numF] at this
    rw [HE.out, HV.out, ← e]
    rfl

def varLenV (v : Int) : Int := if v < 64 then 1 else if v < 16384 then 2 else if v < 1073741824 then 4 else if v ≤ 4611686018427387903 then 8 else 0

set_option maxHeartbeats 400000 in
theorem varlen_any (v : Int) (w : World) (h0 : 0 ≤ v) :
  Calls Try.prog 48 #[.int .u64 v] w fun e w' => e = .returned (.int .i64 (varLenV v)) ∧ w = w' := by
 by_cases h1 : v < 64
 ·have HE : Hid (varLenV v = 1) := by show _ = _; unfold varLenV; rw [if_pos h1]
  go_enter Try.func48, Try.ntmps48
  go_wp2_with fail
  go_returns
  exact ⟨by rw [HE.out]; rfl, rfl⟩
 ·by_cases h2 : v < 16384
  ·have HE : Hid (varLenV v = 2) := by show _ = _; unfold varLenV; rw [if_neg h1, if_pos h2]
   go_enter Try.func48, Try.ntmps48
   go_wp2_with fail
   go_returns
   exact ⟨by rw [HE.out]; rfl, rfl⟩
  ·by_cases h3 : v < 1073741824
   ·have HE : Hid (varLenV v = 4) := by show _ = _; unfold varLenV; rw [if_neg h1, if_neg h2, if_pos h3]
    go_enter Try.func48, Try.ntmps48
    go_wp2_with fail
    go_returns
    exact ⟨by rw [HE.out]; rfl, rfl⟩
   ·by_cases h4 : v ≤ 4611686018427387903
    ·have HE : Hid (varLenV v = 8) := by show _ = _; unfold varLenV; rw [if_neg h1, if_neg h2, if_neg h3, if_pos h4]
     go_enter Try.func48, Try.ntmps48
     go_wp2_with fail
     go_returns
     exact ⟨by rw [HE.out]; rfl, rfl⟩
    ·have HE : Hid (varLenV v = 0) := by show _ = _; unfold varLenV; rw [if_neg h1, if_neg h2, if_neg h3, if_neg h4]
     go_enter Try.func48, Try.ntmps48
     go_wp2_with fail
     go_returns
     exact ⟨by rw [HE.out]; rfl, rfl⟩

end Go.Proofs.Ytgfkgmmigbpciaa
