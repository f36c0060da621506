/- Small questions about a frame. -/
import Derived.Test.YtcfljnlfikkhaaaNumH
import Derived.Deep.RegionWith
namespace Go.Proofs.Ytcfljnlfikkhaaa
open Go.RowKit Go.Deep

/-- A frame. -/
def FrV (t fl st : Int) (a : Option Addr) (n cap : Nat) : Value := .agg #[.int .u8 t, .int .u8 fl, .int .u32 st, .slice a n cap]

def zeroP (t st : Int) : Bool := if t = 0 ∨ t = 1 ∨ t = 2 ∨ t = 3 ∨ t = 5 ∨ t = 9 then st != 0 else if t = 4 ∨ t = 6 ∨ t = 7 then st == 0 else true

set_option maxHeartbeats 1600000 in
theorem zero_any (t fl st : Int) (a : Option Addr) (n cap : Nat) (w : World) :
    Calls Try.prog 19 #[FrV t fl st a n cap] w fun e w' => e = .returned (.bool (zeroP t st)) ∧ Below w.heap.size w w' := by
  unfold FrV
  have hk := (Below.refl w.heap.size w).alloc (Nat.le_refl _) (.cells #[.int .u8 t, .int .u8 fl, .int .u32 st, .slice a n cap] 33 (0, 0))
  have HK := Lib.hid hk
  clear hk
  go_enter Try.func19, Try.ntmps19
  go_wp2_with fail
  all_goals (go_returns; exact ⟨by (simp only [beq_iff_eq, beq_eq_false_iff_ne, ne_eq] at *; simp [zeroP, *]), HK.out⟩)

def padP (t fl : Int) : Bool := bits .and .u8 fl 8 != 0 && (t == 0 || t == 1 || t == 5)

set_option maxHeartbeats 1600000 in
theorem padded_any (t fl st : Int) (a : Option Addr) (n cap : Nat) (w : World) :
    Calls Try.prog 28 #[FrV t fl st a n cap] w fun e w' => e = .returned (.bool (padP t fl)) ∧ Below w.heap.size w w' := by
  unfold FrV
  have hk := (Below.refl w.heap.size w).alloc (Nat.le_refl _) (.cells #[.int .u8 t, .int .u8 fl, .int .u32 st, .slice a n cap] 33 (0, 0))
  have HK := Lib.hid hk
  clear hk
  go_enter Try.func28, Try.ntmps28
  go_wp2_with fail
  all_goals (go_returns; exact ⟨by simp [padP, *], (Below.refl _ _).alloc (Nat.le_refl _) _⟩)

def prioP (t fl : Int) : Bool := t == 1 && bits .and .u8 fl 32 != 0
def aheadI (t fl : Int) : Int := (if padP t fl then 1 else 0) + (if prioP t fl then 5 else if t = 5 then 4 else 0)

set_option maxHeartbeats 1600000 in
theorem ahead_any (t fl st : Int) (a : Option Addr) (n cap : Nat) (w : World) :
    Calls Try.prog 22 #[FrV t fl st a n cap] w fun e w' => e = .returned (.int .i64 (aheadI t fl)) ∧ Below w.heap.size w w' := by
  have hc := padded_any t fl st a n cap (w.alloc (.cells #[.int .u8 t, .int .u8 fl, .int .u32 st, .slice a n cap] 33 (0, 0)))
  unfold FrV at hc ⊢
  have hk := (Below.refl w.heap.size w).alloc (Nat.le_refl _) (.cells #[.int .u8 t, .int .u8 fl, .int .u32 st, .slice a n cap] 33 (0, 0))
  have hb := Blk.new w #[.int .u8 t, .int .u8 fl, .int .u32 st, .slice a n cap] 33
  have HK := Lib.hid hk
  have HB := Lib.hid hb
  have HS : Hid ((w.alloc (.cells #[.int .u8 t, .int .u8 fl, .int .u32 st, .slice a n cap] 33 (0, 0))).heap.size = w.heap.size + 1) := by show _ = _; simp
  clear hk hb
  have HC := Lib.hid hc
  clear hc
  go_enter Try.func22, Try.ntmps22
  go_wp2_with fail
  refine HC.out.mono ?_
  rintro e w1 ⟨rfl, hk1⟩
  have hb1 := (Below.keeps hk1).blk HB.out (by rw [HS.out]; omega)
  have c0 : w1.cell? ⟨w.heap.size, 0, none⟩ = some (.int .u8 t) := hb1.cell 0
  have c1 : w1.cell? ⟨w.heap.size, 1, none⟩ = some (.int .u8 fl) := hb1.cell 1
  have HK1 := Lib.hid (HK.out.trans (hk1.mono HK.out.size))
  clear hk1 hb1
  generalize hpd : padP t fl = p at *
  have HPD := Lib.hid hpd
  clear hpd
  cases p with
  | true =>
    go_wp2_with fail
    all_goals (go_returns; exact ⟨by ((try simp only [beq_iff_eq, beq_eq_false_iff_ne, ne_eq] at *); unfold aheadI prioP; rw [HPD.out]; simp [*]), HK1.out⟩)
  | false =>
    go_wp2_with fail
    all_goals (go_returns; exact ⟨by ((try simp only [beq_iff_eq, beq_eq_false_iff_ne, ne_eq] at *); unfold aheadI prioP; rw [HPD.out]; simp [*]), HK1.out⟩)

/-- How many bytes of padding a frame says. -/
def padI (t fl : Int) (xs : List UInt8) : Int := if padP t fl then ((xs.headD 0).toNat : Int) else 0

set_option maxHeartbeats 1600000 in
theorem pad_any (t fl st : Int) (a : Option Addr) (n cap : Nat) (xs : List UInt8) (w : World) (hx : By w a n cap xs) (hp : padP t fl = true → 0 < n) :
    Calls Try.prog 21 #[FrV t fl st a n cap] w fun e w' => e = .returned (.int .i64 (padI t fl xs)) ∧ Below w.heap.size w w' := by
  have hc := padded_any t fl st a n cap (w.alloc (.cells #[.int .u8 t, .int .u8 fl, .int .u32 st, .slice a n cap] 33 (0, 0)))
  unfold FrV at hc ⊢
  have hk := (Below.refl w.heap.size w).alloc (Nat.le_refl _) (.cells #[.int .u8 t, .int .u8 fl, .int .u32 st, .slice a n cap] 33 (0, 0))
  have hb := Blk.new w #[.int .u8 t, .int .u8 fl, .int .u32 st, .slice a n cap] 33
  have HK := Lib.hid hk
  have HB := Lib.hid hb
  have HS : Hid ((w.alloc (.cells #[.int .u8 t, .int .u8 fl, .int .u32 st, .slice a n cap] 33 (0, 0))).heap.size = w.heap.size + 1) := by show _ = _; simp
  clear hk hb
  have HC := Lib.hid hc
  have HP := Lib.hid hp
  have HX := Lib.hid hx
  clear hc hp hx
  go_enter Try.func21, Try.ntmps21
  go_wp2_with fail
  refine HC.out.mono ?_
  rintro e w1 ⟨rfl, hk1⟩
  have hb1 := (Below.keeps hk1).blk HB.out (by rw [HS.out]; omega)
  have c3 : w1.cell? ⟨w.heap.size, 3, none⟩ = some (.slice a n cap) := hb1.cell 3
  have HK1 := Lib.hid (HK.out.trans (hk1.mono HK.out.size))
  clear hk1 hb1
  generalize hpd : padP t fl = p at *
  have HPD := Lib.hid hpd
  clear hpd
  cases p with
  | false =>
    go_wp2_with fail
    go_returns
    exact ⟨by (unfold padI; rw [HPD.out]; simp), HK1.out⟩
  | true =>
    have hn := HP.out rfl
    obtain ⟨b, o, rfl, hlt, hc⟩ := HX.out.get hn
    have hl := HX.out.1
    cases xs with
    | nil => simp at hl; omega
    | cons y ys =>
      have d0 : w1.cell? ⟨b, o, none⟩ = some (.int .u8 (y.toNat : Int)) := by
        have := HK1.out.cell (p := ⟨b, o, none⟩) hlt
        rw [this]
        exact hc 0 (by simp)
      have hn' : (0 : Int) < (n : Int) := by omega
      have hw : wrap64 (y.toNat : Int) = (y.toNat : Int) := by have := y.toNat_lt; unfold wrap64; omega
      have HW := Lib.hid hw
      clear hw
      go_wp2_with fail
      go_returns
      exact ⟨by (unfold padI; rw [HPD.out]; simp [HW.out]), HK1.out⟩

def sizeP (t fl : Int) (n : Nat) : Bool :=
  if t = 2 then (n : Int) == 5 else if t = 3 ∨ t = 8 then (n : Int) == 4 else if t = 4 then (n : Int) % 6 == 0 && (bits .and .u8 fl 1 == 0 || (n : Int) == 0) else
  if t = 6 then (n : Int) == 8 else if t = 7 then decide (8 ≤ (n : Int)) else if t = 0 ∨ t = 1 ∨ t = 5 then decide (aheadI t fl ≤ (n : Int)) else true

set_option maxHeartbeats 1600000 in
theorem size_any (t fl st : Int) (a : Option Addr) (n cap : Nat) (w : World) (hn : n ≤ 1099511627776) :
    Calls Try.prog 20 #[FrV t fl st a n cap] w fun e w' => e = .returned (.bool (sizeP t fl n)) ∧ Below w.heap.size w w' := by
  have hc := ahead_any t fl st a n cap (w.alloc (.cells #[.int .u8 t, .int .u8 fl, .int .u32 st, .slice a n cap] 33 (0, 0)))
  unfold FrV at hc ⊢
  have hk := (Below.refl w.heap.size w).alloc (Nat.le_refl _) (.cells #[.int .u8 t, .int .u8 fl, .int .u32 st, .slice a n cap] 33 (0, 0))
  have HK := Lib.hid hk
  clear hk
  have HC := Lib.hid hc
  clear hc
  go_enter Try.func20, Try.ntmps20
  go_wp2_with (go_at_call 22; refine HC.out.mono ?_; rintro e w1 ⟨rfl, hk1⟩; have HK1 := Lib.hid (HK.out.trans (hk1.mono HK.out.size)); dsimp only)
  all_goals (go_returns; exact ⟨by (simp only [beq_iff_eq, beq_eq_false_iff_ne, ne_eq] at *; simp [sizeP, *]), by first | exact HK1.out | exact HK.out | exact (Below.refl _ _).alloc (Nat.le_refl _) _⟩)

end Go.Proofs.Ytcfljnlfikkhaaa
