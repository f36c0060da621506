/- ReadVar of the packages num and bifoldref1. -/
import Derived.Test.YtgfkgmmigbpciaaNumB
namespace Go.Proofs.Ytgfkgmmigbpciaa
set_option linter.unusedSimpArgs false
set_option linter.unusedVariables false
open Go.RowKit Go.Deep

/-- What a varint reads as. -/
def rvN (c : UInt8) : Int := if c.toNat < 64 then 1 else if c.toNat < 128 then 2 else if c.toNat < 192 then 4 else 8
def rvMask (n : Int) : Int := if n = 1 then 64 else if n = 2 then 16384 else if n = 4 then 1073741824 else 4611686018427387904
theorem rvMask_1 : rvMask 1 = 64 := by unfold rvMask; simp
theorem rvMask_2 : rvMask 2 = 16384 := by unfold rvMask; simp
theorem rvMask_4 : rvMask 4 = 1073741824 := by unfold rvMask; simp
theorem rvMask_8 : rvMask 8 = 4611686018427387904 := by unfold rvMask; simp
def rvHave (xs : List UInt8) : Bool := decide (0 < xs.length ∧ rvN (xs.headD 0) ≤ xs.length)
def rvV (xs : List UInt8) : Int := if rvHave xs then rbV xs (rvN (xs.headD 0)) % rvMask (rvN (xs.headD 0)) else 0
def rvL (xs : List UInt8) : Int := if rvHave xs then rvN (xs.headD 0) else 0
def rvE (xs : List UInt8) : Int := if rvHave xs then 0 else 20

theorem rvN_cases (c : UInt8) (h : c.toNat < 256) : (c.toNat < 64 ∧ rvN c = 1 ∧ (c.toNat : Int) / 64 = 0) ∨ (64 ≤ c.toNat ∧ c.toNat < 128 ∧ rvN c = 2 ∧ (c.toNat : Int) / 64 = 1) ∨ (128 ≤ c.toNat ∧ c.toNat < 192 ∧ rvN c = 4 ∧ (c.toNat : Int) / 64 = 2) ∨ (192 ≤ c.toNat ∧ rvN c = 8 ∧ (c.toNat : Int) / 64 = 3) := by
 by_cases h1 : c.toNat < 64
 ·exact .inl ⟨h1, by unfold rvN; rw [if_pos h1], by omega⟩
 ·by_cases h2 : c.toNat < 128
  ·exact .inr (.inl ⟨by omega, h2, by unfold rvN; rw [if_neg h1, if_pos h2], by omega⟩)
  ·by_cases h3 : c.toNat < 192
   ·exact .inr (.inr (.inl ⟨by omega, h3, by unfold rvN; rw [if_neg h1, if_neg h2, if_pos h3], by omega⟩))
   ·exact .inr (.inr (.inr ⟨by omega, by unfold rvN; rw [if_neg h1, if_neg h2, if_neg h3], by omega⟩))

theorem numF_bd : ∀ (xs : List UInt8) (a : Int), 0 ≤ a → a < 18446744073709551616 → 0 ≤ numF a xs ∧ numF a xs < 18446744073709551616 := by
 intro xs
 induction xs with
 | nil => intro a h0 h1; exact ⟨h0, h1⟩
 | cons c cs ih =>
  intro a h0 h1
  have hw : IntKind.u64.wrap (a * 256) = a * 256 % 18446744073709551616 := IntKind.wrap_u64 _
  have hc : c.toNat < 256 := c.toNat_lt
  unfold numF
  rw [hw]
  exact ih _ (by omega) (by omega)
theorem rbV_bd (xs : List UInt8) (n : Int) : 0 ≤ rbV xs n ∧ rbV xs n < 18446744073709551616 := by
 unfold rbV
 split
 ·exact numF_bd _ 0 (by omega) (by omega)
 ·omega

set_option maxHeartbeats 800000 in
theorem readvar_any (a : Option Addr) (m cap : Nat) (xs : List UInt8) (w : World) (hb : By w a m cap xs) :
  Calls Try.prog 58 #[.slice a m cap] w fun e w' => e = .returned (.tuple #[.int .u64 (rvV xs), .int .i64 (rvL xs), .int .i64 (rvE xs)]) ∧ w = w' := by
 have hcap := hb.2.le
 have hmax := hb.2.max
 unfold maxLen at hmax
 have HB := Lib.hid hb
 have HN := Lib.hid hb.1
 clear hb
 by_cases h0 : m = 0
 ·have HH : Hid (rvHave xs = false) := by show _ = _; simp only [rvHave, decide_eq_false_iff_not]; have := HN.out; omega
  subst h0
  go_enter Try.func58, Try.ntmps58
  go_wp2_with fail
  go_returns
  exact ⟨by unfold rvV rvL rvE; rw [HH.out]; rfl, rfl⟩
 ·obtain ⟨b, off, rfl, hblt, hcell⟩ := HB.out.get (by omega)
  have hx0 : 0 < xs.length := by have := HN.out; omega
  have hc := hcell 0 hx0
  have hhd : xs.headD 0 = xs[0] := by cases xs with | nil => simp at hx0 | cons c cs => rfl
  have HHD := Lib.hid hhd
  have hx1 : xs[0].toNat < 256 := xs[0].toNat_lt
  clear hcell hhd
  rw [Nat.add_zero] at hc
  have hcs : (xs[0].toNat < 64 ∧ rvN xs[0] = 1 ∧ (xs[0].toNat : Int) / 64 = 0) ∨ (64 ≤ xs[0].toNat ∧ xs[0].toNat < 128 ∧ rvN xs[0] = 2 ∧ (xs[0].toNat : Int) / 64 = 1) ∨ (128 ≤ xs[0].toNat ∧ xs[0].toNat < 192 ∧ rvN xs[0] = 4 ∧ (xs[0].toNat : Int) / 64 = 2) ∨ (192 ≤ xs[0].toNat ∧ rvN xs[0] = 8 ∧ (xs[0].toNat : Int) / 64 = 3) := rvN_cases _ hx1
  rcases hcs with ⟨r1, rn, rq⟩ | ⟨r0, r1, rn, rq⟩ | ⟨r0, r1, rn, rq⟩ | ⟨r0, rn, rq⟩
  ·have RN := Lib.hid rn
   have hq : wrap64 ((2 : Int) ^ (xs[0].toNat / 64)) = 1 := by rw [show xs[0].toNat / 64 = 0 by omega]; simp [wrap64]
   have HQ := Lib.hid hq
   clear rn rq hq
   by_cases hm : (m : Int) < wrap64 ((2 : Int) ^ (xs[0].toNat / 64))
   ·have := HQ.out; omega
   ·have HH : Hid (rvHave xs = true) := by show _ = _; simp only [rvHave, decide_eq_true_eq]; rw [HHD.out, RN.out]; have := HN.out; have := HQ.out; omega
    have HV : Hid (bits .and .u64 (rbV xs 1) 63 = rvV xs) := by
     show _ = _
     rw [and64 6 (rbV_bd xs 1).1 (rbV_bd xs 1).2 (by omega) (by simp)]
     unfold rvV
     rw [HH.out, if_pos rfl, HHD.out, RN.out, rvMask_1]
     simp
    have HL : Hid (rvL xs = 1) := by show _ = _; unfold rvL; rw [HH.out, if_pos rfl, HHD.out, RN.out]
    have HE : Hid (rvE xs = 0) := by show _ = _; unfold rvE; rw [HH.out, if_pos rfl]
    go_enter Try.func58, Try.ntmps58
    go_wp2_with fail
    rw [HQ.out]
    refine (readbig_any _ m cap xs 1 w HB.out).mono ?_
    rintro e w' ⟨rfl, rfl⟩
    go_wp2_with fail
    go_returns
    rw [HV.out, HL.out, HE.out]
    exact ⟨rfl, rfl⟩
  ·have RN := Lib.hid rn
   have hq : wrap64 ((2 : Int) ^ (xs[0].toNat / 64)) = 2 := by rw [show xs[0].toNat / 64 = 1 by omega]; simp [wrap64]
   have HQ := Lib.hid hq
   clear rn rq hq
   by_cases hm : (m : Int) < wrap64 ((2 : Int) ^ (xs[0].toNat / 64))
   ·have HH : Hid (rvHave xs = false) := by show _ = _; simp only [rvHave, decide_eq_false_iff_not]; rw [HHD.out, RN.out]; have := HN.out; have := HQ.out; omega
    go_enter Try.func58, Try.ntmps58
    go_wp2_with fail
    go_returns
    exact ⟨by unfold rvV rvL rvE; rw [HH.out]; rfl, rfl⟩
   ·have HH : Hid (rvHave xs = true) := by show _ = _; simp only [rvHave, decide_eq_true_eq]; rw [HHD.out, RN.out]; have := HN.out; have := HQ.out; omega
    have HV : Hid (bits .and .u64 (rbV xs 2) 16383 = rvV xs) := by
     show _ = _
     rw [and64 14 (rbV_bd xs 2).1 (rbV_bd xs 2).2 (by omega) (by simp)]
     unfold rvV
     rw [HH.out, if_pos rfl, HHD.out, RN.out, rvMask_2]
     simp
    have HL : Hid (rvL xs = 2) := by show _ = _; unfold rvL; rw [HH.out, if_pos rfl, HHD.out, RN.out]
    have HE : Hid (rvE xs = 0) := by show _ = _; unfold rvE; rw [HH.out, if_pos rfl]
    go_enter Try.func58, Try.ntmps58
    go_wp2_with fail
    rw [HQ.out]
    refine (readbig_any _ m cap xs 2 w HB.out).mono ?_
    rintro e w' ⟨rfl, rfl⟩
    go_wp2_with fail
    go_returns
    rw [HV.out, HL.out, HE.out]
    exact ⟨rfl, rfl⟩
  ·have RN := Lib.hid rn
   have hq : wrap64 ((2 : Int) ^ (xs[0].toNat / 64)) = 4 := by rw [show xs[0].toNat / 64 = 2 by omega]; simp [wrap64]
   have HQ := Lib.hid hq
   clear rn rq hq
   by_cases hm : (m : Int) < wrap64 ((2 : Int) ^ (xs[0].toNat / 64))
   ·have HH : Hid (rvHave xs = false) := by show _ = _; simp only [rvHave, decide_eq_false_iff_not]; rw [HHD.out, RN.out]; have := HN.out; have := HQ.out; omega
    go_enter Try.func58, Try.ntmps58
    go_wp2_with fail
    go_returns
    exact ⟨by unfold rvV rvL rvE; rw [HH.out]; rfl, rfl⟩
   ·have HH : Hid (rvHave xs = true) := by show _ = _; simp only [rvHave, decide_eq_true_eq]; rw [HHD.out, RN.out]; have := HN.out; have := HQ.out; omega
    have HV : Hid (bits .and .u64 (rbV xs 4) 1073741823 = rvV xs) := by
     show _ = _
     rw [and64 30 (rbV_bd xs 4).1 (rbV_bd xs 4).2 (by omega) (by simp)]
     unfold rvV
     rw [HH.out, if_pos rfl, HHD.out, RN.out, rvMask_4]
     simp
    have HL : Hid (rvL xs = 4) := by show _ = _; unfold rvL; rw [HH.out, if_pos rfl, HHD.out, RN.out]
    have HE : Hid (rvE xs = 0) := by show _ = _; unfold rvE; rw [HH.out, if_pos rfl]
    go_enter Try.func58, Try.ntmps58
    go_wp2_with fail
    rw [HQ.out]
    refine (readbig_any _ m cap xs 4 w HB.out).mono ?_
    rintro e w' ⟨rfl, rfl⟩
    go_wp2_with fail
    go_returns
    rw [HV.out, HL.out, HE.out]
    exact ⟨rfl, rfl⟩
  ·have RN := Lib.hid rn
   have hq : wrap64 ((2 : Int) ^ (xs[0].toNat / 64)) = 8 := by rw [show xs[0].toNat / 64 = 3 by omega]; simp [wrap64]
   have HQ := Lib.hid hq
   clear rn rq hq
   by_cases hm : (m : Int) < wrap64 ((2 : Int) ^ (xs[0].toNat / 64))
   ·have HH : Hid (rvHave xs = false) := by show _ = _; simp only [rvHave, decide_eq_false_iff_not]; rw [HHD.out, RN.out]; have := HN.out; have := HQ.out; omega
    go_enter Try.func58, Try.ntmps58
    go_wp2_with fail
    go_returns
    exact ⟨by unfold rvV rvL rvE; rw [HH.out]; rfl, rfl⟩
   ·have HH : Hid (rvHave xs = true) := by show _ = _; simp only [rvHave, decide_eq_true_eq]; rw [HHD.out, RN.out]; have := HN.out; have := HQ.out; omega
    have HV : Hid (bits .and .u64 (rbV xs 8) 4611686018427387903 = rvV xs) := by
     show _ = _
     rw [and64 62 (rbV_bd xs 8).1 (rbV_bd xs 8).2 (by omega) (by simp)]
     unfold rvV
     rw [HH.out, if_pos rfl, HHD.out, RN.out, rvMask_8]
     simp
    have HL : Hid (rvL xs = 8) := by show _ = _; unfold rvL; rw [HH.out, if_pos rfl, HHD.out, RN.out]
    have HE : Hid (rvE xs = 0) := by show _ = _; unfold rvE; rw [HH.out, if_pos rfl]
    go_enter Try.func58, Try.ntmps58
    go_wp2_with fail
    rw [HQ.out]
    refine (readbig_any _ m cap xs 8 w HB.out).mono ?_
    rintro e w' ⟨rfl, rfl⟩
    go_wp2_with fail
    go_returns
    rw [HV.out, HL.out, HE.out]
    exact ⟨rfl, rfl⟩


set_option maxHeartbeats 800000 in
theorem readvarr_any (a : Option Addr) (m cap : Nat) (xs : List UInt8) (w : World) (hb : By w a m cap xs) :
  Calls Try.prog 54 #[.slice a m cap] w fun e w' => e = .returned (.tuple #[.int .u64 (rvV xs), .int .i64 (rvL xs), .int .i64 (rvE xs)]) ∧ w = w' := by
 have hcap := hb.2.le
 have hmax := hb.2.max
 unfold maxLen at hmax
 have HB := Lib.hid hb
 have HN := Lib.hid hb.1
 clear hb
 by_cases h0 : m = 0
 ·have HH : Hid (rvHave xs = false) := by show _ = _; simp only [rvHave, decide_eq_false_iff_not]; have := HN.out; omega
  subst h0
  go_enter Try.func54, Try.ntmps54
  go_wp2_with fail
  go_returns
  exact ⟨by unfold rvV rvL rvE; rw [HH.out]; rfl, rfl⟩
 ·obtain ⟨b, off, rfl, hblt, hcell⟩ := HB.out.get (by omega)
  have hx0 : 0 < xs.length := by have := HN.out; omega
  have hc := hcell 0 hx0
  have hhd : xs.headD 0 = xs[0] := by cases xs with | nil => simp at hx0 | cons c cs => rfl
  have HHD := Lib.hid hhd
  have hx1 : xs[0].toNat < 256 := xs[0].toNat_lt
  clear hcell hhd
  rw [Nat.add_zero] at hc
  have hcs : (xs[0].toNat < 64 ∧ rvN xs[0] = 1 ∧ (xs[0].toNat : Int) / 64 = 0) ∨ (64 ≤ xs[0].toNat ∧ xs[0].toNat < 128 ∧ rvN xs[0] = 2 ∧ (xs[0].toNat : Int) / 64 = 1) ∨ (128 ≤ xs[0].toNat ∧ xs[0].toNat < 192 ∧ rvN xs[0] = 4 ∧ (xs[0].toNat : Int) / 64 = 2) ∨ (192 ≤ xs[0].toNat ∧ rvN xs[0] = 8 ∧ (xs[0].toNat : Int) / 64 = 3) := rvN_cases _ hx1
  rcases hcs with ⟨r1, rn, rq⟩ | ⟨r0, r1, rn, rq⟩ | ⟨r0, r1, rn, rq⟩ | ⟨r0, rn, rq⟩
  ·have RN := Lib.hid rn
   have hq : wrap64 ((2 : Int) ^ (xs[0].toNat / 64)) = 1 := by rw [show xs[0].toNat / 64 = 0 by omega]; simp [wrap64]
   have HQ := Lib.hid hq
   clear rn rq hq
   by_cases hm : (m : Int) < wrap64 ((2 : Int) ^ (xs[0].toNat / 64))
   ·have := HQ.out; omega
   ·have HH : Hid (rvHave xs = true) := by show _ = _; simp only [rvHave, decide_eq_true_eq]; rw [HHD.out, RN.out]; have := HN.out; have := HQ.out; omega
    have HV : Hid (bits .and .u64 (rbV xs 1) 63 = rvV xs) := by
     show _ = _
     rw [and64 6 (rbV_bd xs 1).1 (rbV_bd xs 1).2 (by omega) (by simp)]
     unfold rvV
     rw [HH.out, if_pos rfl, HHD.out, RN.out, rvMask_1]
     simp
    have HL : Hid (rvL xs = 1) := by show _ = _; unfold rvL; rw [HH.out, if_pos rfl, HHD.out, RN.out]
    have HE : Hid (rvE xs = 0) := by show _ = _; unfold rvE; rw [HH.out, if_pos rfl]
    go_enter Try.func54, Try.ntmps54
    go_wp2_with fail
    rw [HQ.out]
    refine (readbigr_any _ m cap xs 1 w HB.out).mono ?_
    rintro e w' ⟨rfl, rfl⟩
    go_wp2_with fail
    go_returns
    rw [HV.out, HL.out, HE.out]
    exact ⟨rfl, rfl⟩
  ·have RN := Lib.hid rn
   have hq : wrap64 ((2 : Int) ^ (xs[0].toNat / 64)) = 2 := by rw [show xs[0].toNat / 64 = 1 by omega]; simp [wrap64]
   have HQ := Lib.hid hq
   clear rn rq hq
   by_cases hm : (m : Int) < wrap64 ((2 : Int) ^ (xs[0].toNat / 64))
   ·have HH : Hid (rvHave xs = false) := by show _ = _; simp only [rvHave, decide_eq_false_iff_not]; rw [HHD.out, RN.out]; have := HN.out; have := HQ.out; omega
    go_enter Try.func54, Try.ntmps54
    go_wp2_with fail
    go_returns
    exact ⟨by unfold rvV rvL rvE; rw [HH.out]; rfl, rfl⟩
   ·have HH : Hid (rvHave xs = true) := by show _ = _; simp only [rvHave, decide_eq_true_eq]; rw [HHD.out, RN.out]; have := HN.out; have := HQ.out; omega
    have HV : Hid (bits .and .u64 (rbV xs 2) 16383 = rvV xs) := by
     show _ = _
     rw [and64 14 (rbV_bd xs 2).1 (rbV_bd xs 2).2 (by omega) (by simp)]
     unfold rvV
     rw [HH.out, if_pos rfl, HHD.out, RN.out, rvMask_2]
     simp
    have HL : Hid (rvL xs = 2) := by show _ = _; unfold rvL; rw [HH.out, if_pos rfl, HHD.out, RN.out]
    have HE : Hid (rvE xs = 0) := by show _ = _; unfold rvE; rw [HH.out, if_pos rfl]
    go_enter Try.func54, Try.ntmps54
    go_wp2_with fail
    rw [HQ.out]
    refine (readbigr_any _ m cap xs 2 w HB.out).mono ?_
    rintro e w' ⟨rfl, rfl⟩
    go_wp2_with fail
    go_returns
    rw [HV.out, HL.out, HE.out]
    exact ⟨rfl, rfl⟩
  ·have RN := Lib.hid rn
   have hq : wrap64 ((2 : Int) ^ (xs[0].toNat / 64)) = 4 := by rw [show xs[0].toNat / 64 = 2 by omega]; simp [wrap64]
   have HQ := Lib.hid hq
   clear rn rq hq
   by_cases hm : (m : Int) < wrap64 ((2 : Int) ^ (xs[0].toNat / 64))
   ·have HH : Hid (rvHave xs = false) := by show _ = _; simp only [rvHave, decide_eq_false_iff_not]; rw [HHD.out, RN.out]; have := HN.out; have := HQ.out; omega
    go_enter Try.func54, Try.ntmps54
    go_wp2_with fail
    go_returns
    exact ⟨by unfold rvV rvL rvE; rw [HH.out]; rfl, rfl⟩
   ·have HH : Hid (rvHave xs = true) := by show _ = _; simp only [rvHave, decide_eq_true_eq]; rw [HHD.out, RN.out]; have := HN.out; have := HQ.out; omega
    have HV : Hid (bits .and .u64 (rbV xs 4) 1073741823 = rvV xs) := by
     show _ = _
     rw [and64 30 (rbV_bd xs 4).1 (rbV_bd xs 4).2 (by omega) (by simp)]
     unfold rvV
     rw [HH.out, if_pos rfl, HHD.out, RN.out, rvMask_4]
     simp
    have HL : Hid (rvL xs = 4) := by show _ = _; unfold rvL; rw [HH.out, if_pos rfl, HHD.out, RN.out]
    have HE : Hid (rvE xs = 0) := by show _ = _; unfold rvE; rw [HH.out, if_pos rfl]
    go_enter Try.func54, Try.ntmps54
    go_wp2_with fail
    rw [HQ.out]
    refine (readbigr_any _ m cap xs 4 w HB.out).mono ?_
    rintro e w' ⟨rfl, rfl⟩
    go_wp2_with fail
    go_returns
    rw [HV.out, HL.out, HE.out]
    exact ⟨rfl, rfl⟩
  ·have RN := Lib.hid rn
   have hq : wrap64 ((2 : Int) ^ (xs[0].toNat / 64)) = 8 := by rw [show xs[0].toNat / 64 = 3 by omega]; simp [wrap64]
   have HQ := Lib.hid hq
   clear rn rq hq
   by_cases hm : (m : Int) < wrap64 ((2 : Int) ^ (xs[0].toNat / 64))
   ·have HH : Hid (rvHave xs = false) := by show _ = _; simp only [rvHave, decide_eq_false_iff_not]; rw [HHD.out, RN.out]; have := HN.out; have := HQ.out; omega
    go_enter Try.func54, Try.ntmps54
    go_wp2_with fail
    go_returns
    exact ⟨by unfold rvV rvL rvE; rw [HH.out]; rfl, rfl⟩
   ·have HH : Hid (rvHave xs = true) := by show _ = _; simp only [rvHave, decide_eq_true_eq]; rw [HHD.out, RN.out]; have := HN.out; have := HQ.out; omega
    have HV : Hid (bits .and .u64 (rbV xs 8) 4611686018427387903 = rvV xs) := by
     show _ = _
     rw [and64 62 (rbV_bd xs 8).1 (rbV_bd xs 8).2 (by omega) (by simp)]
     unfold rvV
     rw [HH.out, if_pos rfl, HHD.out, RN.out, rvMask_8]
     simp
    have HL : Hid (rvL xs = 8) := by show _ = _; unfold rvL; rw [HH.out, if_pos rfl, HHD.out, RN.out]
    have HE : Hid (rvE xs = 0) := by show _ = _; unfold rvE; rw [HH.out, if_pos rfl]
    go_enter Try.func54, Try.ntmps54
    go_wp2_with fail
    rw [HQ.out]
    refine (readbigr_any _ m cap xs 8 w HB.out).mono ?_
    rintro e w' ⟨rfl, rfl⟩
    go_wp2_with fail
    go_returns
    rw [HV.out, HL.out, HE.out]
    exact ⟨rfl, rfl⟩


end Go.Proofs.Ytgfkgmmigbpciaa
