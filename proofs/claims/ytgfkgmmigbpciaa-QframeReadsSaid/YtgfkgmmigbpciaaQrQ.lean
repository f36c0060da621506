import Derived.Test.YtgfkgmmigbpciaaQrA
import Derived.Deep.RegionHeld3
import Derived.Test.YtgfkgmmigbpciaaQrF
import Derived.Test.YtgfkgmmigbpciaaQfA
/- The reader of the package bifoldref17: num and cut. -/
namespace Go.Proofs.Ytgfkgmmigbpciaa
set_option linter.unusedSimpArgs false
set_option linter.unusedVariables false
open Go.RowKit Go.Deep

/-- A reader in memory. -/
def Rr (w : World) (rb : Nat) (a : Option Addr) (m cap : Nat) (at_ : Nat) (ok : Bool) : Prop := Blk w rb #[.slice a m cap, .int .i64 (at_ : Int), .bool ok] 73
theorem Rr.cells {w : World} {rb : Nat} {a : Option Addr} {m cap at_ : Nat} {ok : Bool} (h : Rr w rb a m cap at_ ok) :
  (w.cell? ⟨rb, 0, none⟩ = some (.slice a m cap) ∧ w.cell? ⟨rb, 1, none⟩ = some (.int .i64 (at_ : Int)) ∧ w.cell? ⟨rb, 2, none⟩ = some (.bool ok)) ∧ w.frozen? ⟨rb, 1, none⟩ = false ∧ w.frozen? ⟨rb, 2, none⟩ = false :=
 ⟨⟨Blk.cell h 0, Blk.cell h 1, Blk.cell h 2⟩, Blk.free h 1, Blk.free h 2⟩

def numSQ (xs : List UInt8) (at_ : Nat) (ok : Bool) : Int × Nat × Bool :=
 if ok = false then (0, at_, false) else if rvE (xs.drop at_) ≠ 0 then (0, at_, false) else (rvV (xs.drop at_), at_ + (rvL (xs.drop at_)).toNat, true)

set_option maxHeartbeats 1600000 in
theorem rnumq_any (rb : Nat) (a : Option Addr) (m cap : Nat) (xs : List UInt8) (at_ : Nat) (ok : Bool) (w : World) (hb : By w a m cap xs) (hr : Rr w rb a m cap at_ ok) (hat : at_ ≤ m) (hl : m ≤ 1000000000) :
  Calls Try.prog 30 #[.pointer (some ⟨rb, 0, none⟩)] w fun e w' => e = .returned (.int .u64 (numSQ xs at_ ok).1) ∧ Rr w' rb a m cap (numSQ xs at_ ok).2.1 (numSQ xs at_ ok).2.2 ∧ Keeps (fun k => k = rb) w w' := by
 have hcap := hb.2.le
 have hmax := hb.2.max
 unfold maxLen at hmax
 have HB := Lib.hid hb
 have HR := Lib.hid hr
 clear hb hr
 obtain ⟨⟨c0, c1, c2⟩, y1, y2⟩ := HR.out.cells
 cases ok with
 | false =>
  have HE : Hid (numSQ xs at_ false = (0, at_, false)) := Lib.hid rfl
  go_enter Try.func30, Try.ntmps30
  go_wp2_with fail
  go_returns
  rw [HE.out]
  exact ⟨rfl, HR.out, Keeps.refl _ _⟩
 | true =>
  obtain ⟨r, hr⟩ : ∃ r, numSQ xs at_ true = r := ⟨_, rfl⟩
  rw [hr]
  have HF := Lib.hid (HB.out.from at_ hat)
  have hlen : (xs.drop at_).length = m - at_ := by rw [List.length_drop, ← HB.out.1]
  unfold numSQ at hr
  rw [if_neg (by decide)] at hr
  have HRR := Lib.hid hr
  clear hr
  generalize xs.drop at_ = ys at *
  have ho := offA_eq a cap at_
  have z1 : (0 : Int) ≤ (at_ : Int) := by omega
  have z2 : (at_ : Int) ≤ (m : Int) := by omega
  have z3 : (m : Int) ≤ (cap : Int) := by omega
  go_enter Try.func30, Try.ntmps30
  go_wp2_with fail
  go_region_held3 (fun w' => w'.cell? ⟨rb, 0, none⟩ = some (.slice a m cap) ∧ w'.cell? ⟨rb, 1, none⟩ = some (.int .i64 (at_ : Int)) ∧ w'.cell? ⟨rb, 2, none⟩ = some (.bool true)) (first | exact ⟨c0, c1, c2⟩ | go_keep)
   ((go_at_call 54; refine (readvarr_any (offA a cap at_) (m - at_) (cap - at_) ys _ (By.drewR HF.out)).mono ?_; rintro e w' ⟨rfl, rfl⟩))
  clear ho
  have HRd : Hid (Rr w.drew rb a m cap at_ true) := Lib.hid (Blk.drew HR.out)
  have hkd : Keeps (fun k => k = rb) w w.drew := (Keeps.refl _ _).drew
  have HKD := Lib.hid hkd
  clear hkd
  rcases rv_facts ys with ⟨f1, f2, f3⟩ | ⟨j, j1, j8, jl, f2, f1, f3, f4⟩
  ·have HE : Hid (r = (0, at_, false)) := Lib.hid (by rw [← HRR.out, f1, if_pos (by decide)])
   have HFI : Hid (Rr (w.setCell ⟨rb, 2, none⟩ (.bool false)).drew rb a m cap at_ false) := Lib.hid (Blk.drew (Blk.set HR.out 2 (.bool false)))
   have HKF : Hid (Keeps (fun k => k = rb) w (w.setCell ⟨rb, 2, none⟩ (.bool false)).drew) := Lib.hid (((Keeps.refl _ _).put 2 (.bool false)).drew)
   rw [f1, f2, f3]
   go_wp2_with fail
   go_returns
   rw [HE.out]
   exact ⟨rfl, HFI.out, HKF.out⟩
  ·have HE : Hid (r = (rvV ys, at_ + j, true)) := Lib.hid (by rw [← HRR.out, f1, f2, if_neg (by decide)]; simp)
   rw [f1, f2]
   have HFI : Hid (Rr (w.setCell ⟨rb, 1, none⟩ (.int .i64 ((at_ : Int) + (j : Int)))).drew rb a m cap (at_ + j) true) := Lib.hid (by
    have h := Blk.drew (Blk.set HR.out 1 (.int .i64 ((at_ : Int) + (j : Int))))
    unfold Rr
    rw [show ((at_ + j : Nat) : Int) = (at_ : Int) + (j : Int) by omega]
    exact h)
   have HKF : Hid (Keeps (fun k => k = rb) w (w.setCell ⟨rb, 1, none⟩ (.int .i64 ((at_ : Int) + (j : Int)))).drew) := Lib.hid (((Keeps.refl _ _).put 1 _).drew)
   generalize rvV ys = v at *
   go_wp2_with fail
   go_returns
   rw [HE.out]
   exact ⟨rfl, HFI.out, HKF.out⟩


def cutSQ (xs : List UInt8) (at_ : Nat) (ok : Bool) (n : Nat) : List UInt8 × Nat × Bool :=
 if ok = false ∨ xs.length - at_ < n then ([], at_, false) else ((xs.drop at_).take n, at_ + n, true)

set_option maxRecDepth 100000 in
set_option maxHeartbeats 1600000 in
theorem rcutq_any (rb : Nat) (a : Option Addr) (m cap : Nat) (xs : List UInt8) (at_ : Nat) (ok : Bool) (n : Nat) (w : World) (hb : By w a m cap xs) (hr : Rr w rb a m cap at_ ok) (hat : at_ ≤ m) (hl : m ≤ 1000000000) (hn : n ≤ 4611686018427387903) (hrb : rb < w.heap.size) :
  Calls Try.prog 33 #[.pointer (some ⟨rb, 0, none⟩), .int .u64 (n : Int)] w fun e w' => ∃ a1 n1 c1, e = .returned (.slice a1 n1 c1) ∧ Bo w.heap.size w' a1 n1 c1 (cutSQ xs at_ ok n).1 ∧ Rr w' rb a m cap (cutSQ xs at_ ok n).2.1 (cutSQ xs at_ ok n).2.2 ∧ Keeps (fun k => k = rb) w w' := by
 have hcap := hb.2.le
 have hmax := hb.2.max
 unfold maxLen at hmax
 have HB := Lib.hid hb
 have HR := Lib.hid hr
 have HN := Lib.hid hb.1
 clear hb hr
 obtain ⟨⟨c0, c1, c2⟩, y1, y2⟩ := HR.out.cells
 have HFI : Hid (Rr (w.setCell ⟨rb, 2, none⟩ (.bool false)).drew rb a m cap at_ false) := Lib.hid (Blk.drew (Blk.set HR.out 2 (.bool false)))
 have HKF : Hid (Keeps (fun k => k = rb) w (w.setCell ⟨rb, 2, none⟩ (.bool false)).drew) := Lib.hid (((Keeps.refl _ _).put 2 (.bool false)).drew)
 have z1 : (0 : Int) ≤ (at_ : Int) := by omega
 have z2 : (at_ : Int) ≤ (m : Int) := by omega
 have z3 : (m : Int) ≤ (cap : Int) := by omega
 cases ok with
 | false =>
  have HE : Hid (cutSQ xs at_ false n = ([], at_, false)) := Lib.hid (by unfold cutSQ; rw [if_pos (.inl rfl)])
  go_enter Try.func33, Try.ntmps33
  go_wp2_with fail
  go_quiet (fail)
  go_wp2_with fail
  go_returns
  rw [HE.out]
  first
  | exact ⟨none, 0, 0, rfl, Bo.nil _ _, Blk.drewN (Blk.set HR.out 2 (.bool false)) _, ((Keeps.refl _ _).put 2 (.bool false)).drewN _⟩
  | exact ⟨none, 0, 0, rfl, Bo.nil _ _, Blk.set (Blk.drewN HR.out _) 2 (.bool false), ((Keeps.refl _ _).drewN _).trans ((Keeps.refl _ _).put 2 (.bool false))⟩
  | trace_state
 | true =>
  have hwu : IntKind.u64.wrap ((m : Int) - (at_ : Int)) = (m : Int) - (at_ : Int) := by rw [IntKind.wrap_u64]; omega
  have hwi : IntKind.i64.wrap ((m : Int) - (at_ : Int)) = (m : Int) - (at_ : Int) := by rw [IntKind.wrap_i64]; omega
  by_cases hgt : m - at_ < n
  ·have HE : Hid (cutSQ xs at_ true n = ([], at_, false)) := Lib.hid (by unfold cutSQ; rw [if_pos (.inr (by rw [← HN.out]; exact hgt))])
   have x1 : (m : Int) - (at_ : Int) < (n : Int) := by omega
   go_enter Try.func33, Try.ntmps33
   go_wp2_with fail
   go_region_held3 (fun w' => w'.cell? ⟨rb, 0, none⟩ = some (.slice a m cap) ∧ w'.cell? ⟨rb, 1, none⟩ = some (.int .i64 (at_ : Int)) ∧ w'.cell? ⟨rb, 2, none⟩ = some (.bool true)) (first | exact ⟨c0, c1, c2⟩ | go_keep) (fail)
   go_wp2_with fail
   go_returns
   rw [HE.out]
   exact ⟨none, 0, 0, rfl, Bo.nil _ _, HFI.out, HKF.out⟩
  ·have HE : Hid (cutSQ xs at_ true n = ((xs.drop at_).take n, at_ + n, true)) := Lib.hid (by unfold cutSQ; rw [if_neg (by rw [← HN.out]; simp; omega)])
   have x1 : ¬ (m : Int) - (at_ : Int) < (n : Int) := by omega
   have hsl : at_ + n ≤ m := by omega
   have HSRC := Lib.hid (HB.out.mid at_ (at_ + n) (by omega) hsl)
   rw [show at_ + n - at_ = n by omega] at HSRC
   go_enter Try.func33, Try.ntmps33
   go_wp2_with fail
   go_region_held3 (fun w' => w'.cell? ⟨rb, 0, none⟩ = some (.slice a m cap) ∧ w'.cell? ⟨rb, 1, none⟩ = some (.int .i64 (at_ : Int)) ∧ w'.cell? ⟨rb, 2, none⟩ = some (.bool true)) (first | exact ⟨c0, c1, c2⟩ | go_keep) (fail)
   have ho := offA_eq a cap at_
   have hwn : IntKind.i64.wrap (n : Int) = (n : Int) := by rw [IntKind.wrap_i64]; omega
   have hwa : IntKind.i64.wrap ((at_ : Int) + (n : Int)) = (at_ : Int) + (n : Int) := by rw [IntKind.wrap_i64]; omega
   have x2 : (at_ : Int) ≤ (at_ : Int) + (n : Int) := by omega
   have x3 : (at_ : Int) + (n : Int) ≤ (cap : Int) := by omega
   have x4 : (0 : Int) ≤ (at_ : Int) + (n : Int) := by omega
   have x5 : ((at_ : Int) + (n : Int)).toNat = at_ + n := by omega
   clear hwu hwi x1
   go_wp2_with fail
   refine wp_region_held (S := fun w' => w'.cell? ⟨rb, 0, none⟩ = some (.slice a m cap) ∧ w'.cell? ⟨rb, 1, none⟩ = some (.int .i64 (at_ : Int)) ∧ w'.cell? ⟨rb, 2, none⟩ = some (.bool true)) (by kernel_rfl) ?_
   change wpAnyH _ _ _ _ _ _ _ _ (World.drew _)
   have hS : (fun w' : World => w'.cell? ⟨rb, 0, none⟩ = some (.slice a m cap) ∧ w'.cell? ⟨rb, 1, none⟩ = some (.int .i64 (at_ : Int)) ∧ w'.cell? ⟨rb, 2, none⟩ = some (.bool true)) w.drew.drew := ⟨c0, c1, c2⟩
   refine tH (i := 0) (v := ?_) rfl ?_ hS ?_
   rotate_left
   ·intro wz ⟨_, _, _⟩; go_simp; try with_reducible rfl
   refine tH (i := 1) (v := ?_) rfl ?_ hS ?_
   rotate_left
   ·intro wz ⟨_, _, _⟩; go_simp; try with_reducible rfl
   refine tH (i := 2) (v := ?_) rfl ?_ hS ?_
   rotate_left
   ·intro wz ⟨_, _, _⟩; go_simp; try with_reducible rfl
   refine tH (i := 3) (v := ?_) rfl ?_ hS ?_
   rotate_left
   ·intro wz ⟨_, _, _⟩; go_simp; try with_reducible rfl
   refine tH (i := 4) (v := ?_) rfl ?_ hS ?_
   rotate_left
   ·intro wz ⟨_, _, _⟩; go_simp; try with_reducible rfl
   refine tH (i := 5) (v := ?_) rfl ?_ hS ?_
   rotate_left
   ·intro wz ⟨_, _, _⟩; go_simp; try with_reducible rfl
   refine tH (i := 6) (v := ?_) rfl ?_ hS ?_
   rotate_left
   ·intro wz ⟨_, _, _⟩; go_simp; try with_reducible rfl
   refine tH (i := 7) (v := ?_) rfl ?_ hS ?_
   rotate_left
   ·intro wz ⟨_, _, _⟩; go_simp; try with_reducible rfl
   refine tH (i := 8) (v := ?_) rfl ?_ hS ?_
   rotate_left
   ·intro wz ⟨_, _, _⟩; go_simp; try with_reducible rfl
   refine tH (i := 9) (v := ?_) rfl ?_ hS ?_
   rotate_left
   ·intro wz ⟨_, _, _⟩; go_simp; try with_reducible rfl
   refine tH (i := 10) (v := ?_) rfl ?_ hS ?_
   rotate_left
   ·intro wz ⟨_, _, _⟩; go_simp; try with_reducible rfl
   refine tH (i := 11) (v := ?_) rfl ?_ hS ?_
   rotate_left
   ·intro wz ⟨_, _, _⟩; go_simp; try with_reducible rfl
   refine tH (i := 12) (v := ?_) rfl ?_ hS ?_
   rotate_left
   ·intro wz ⟨_, _, _⟩; go_simp; try with_reducible rfl
   refine tH (i := 13) (v := ?_) rfl ?_ hS ?_
   rotate_left
   ·intro wz ⟨_, _, _⟩; go_simp; try with_reducible rfl
   refine tH (i := 14) (v := ?_) rfl ?_ hS ?_
   rotate_left
   ·intro wz ⟨_, _, _⟩; go_simp; try with_reducible rfl
   refine tH (i := 15) (v := ?_) rfl ?_ hS ?_
   rotate_left
   ·intro wz ⟨_, _, _⟩; go_simp; try with_reducible rfl
   obtain ⟨i0, hi0, hz0, hz1, hz2⟩ := info_parts info8
   refine held_app (i := 16) rfl (by kernel_rfl) (by kernel_rfl) (.const (.slice none 0 0)) (.tmp 44) 22 22 rfl w.heap.size 5 i0 _ 1 1 Try.underlying22 hi0 hz0 hz1 hz2 rfl none 0 0 (Bs []) (by kernel_rfl) (Dst.nil _ _ _ _) (.slice (offA a cap at_) n (cap - at_)) (by kernel_rfl) n (Bs ((xs.drop at_).take n)) ((By.drewR (By.drewR HSRC.out)).2.src Try.underlying22 (Bs_one _)) (by unfold maxLen; omega) (by omega) (Nat.le_refl _) ?_
   intro a6 c6 w6 _ hk6 _ hown6 hnil6
   have hbo : Bo w.heap.size w6 a6 n c6 ((xs.drop at_).take n) := by
    have hlen : ((xs.drop at_).take n).length = n := HSRC.out.1.symm
    by_cases h0 : n = 0
    ·obtain ⟨rfl, rfl, rfl⟩ := hnil6 h0
     subst h0
     simpa using Bo.nil _ _
    ·refine ⟨hlen.symm, ?_⟩
     have h := hown6 (by omega)
     rwa [Nat.zero_add] at h
   have HO6 := Lib.hid hbo
   have hk6' : Keeps (fun k => k = rb) w.drew.drew w6 := hk6.mono (fun k _ h => by cases h.2)
   have HK6 : Hid (Keeps (fun k => k = rb) w w6) := Lib.hid (((Keeps.refl (fun k => k = rb) w).drew.drew).trans hk6')
   have HR6 : Hid (Rr w6 rb a m cap at_ true) := Lib.hid (hk6.blk (show Blk w.drew.drew rb _ _ from Blk.drew (Blk.drew HR.out)) (fun h => by cases h.2))
   clear hk6 hk6' hown6 hnil6 hbo hi0 hz0 hz1 hz2 hS c0 c1 c2 y1 y2
   obtain ⟨⟨c0, c1, c2⟩, y1, y2⟩ := HR6.out.cells
   have hS : (fun w' : World => w'.cell? ⟨rb, 0, none⟩ = some (.slice a m cap) ∧ w'.cell? ⟨rb, 1, none⟩ = some (.int .i64 (at_ : Int)) ∧ w'.cell? ⟨rb, 2, none⟩ = some (.bool true)) w6 := ⟨c0, c1, c2⟩
   refine ⟨hS, ?_⟩
   refine tH (i := 17) (v := ?_) rfl ?_ hS ?_
   rotate_left
   ·intro wz ⟨_, _, _⟩; go_simp; try with_reducible rfl
   refine wpAnyH_done (by kernel_rfl) ?_ _
   clear hS
   have HFI2 : Hid (Rr (w6.setCell ⟨rb, 1, none⟩ (.int .i64 ((at_ : Int) + (n : Int)))) rb a m cap (at_ + n) true) := Lib.hid (by
    have h := Blk.set HR6.out 1 (.int .i64 ((at_ : Int) + (n : Int)))
    unfold Rr
    rw [show ((at_ + n : Nat) : Int) = (at_ : Int) + (n : Int) by omega]
    exact h)
   have hkp := (Keeps.refl (fun k => k = rb) w6).put 1 (.int .i64 ((at_ : Int) + (n : Int)))
   have HKF2 := Lib.hid (HK6.out.trans hkp)
   have HOF := Lib.hid (HO6.out.keep hkp (fun b hb h => by have := (HO6.out.ge b hb).1; omega))
   clear hkp
   go_wp2_with fail
   go_returns
   rw [HE.out]
   exact ⟨a6, n, c6, rfl, HOF.out, HFI2.out, HKF2.out⟩

/-- What num does: a number, or it is given up. -/
def NumS (ys : List UInt8) (ok : Bool) (v : Int) (y' : List UInt8) (ok' : Bool) : Prop :=
 (ok = true ∧ pn ys = some (v, y') ∧ ok' = true) ∨ (ok = true ∧ pn ys = none ∧ v = 0 ∧ y' = ys ∧ ok' = false) ∨ (ok = false ∧ v = 0 ∧ y' = ys ∧ ok' = false)
theorem NumS.bd {ys y' : List UInt8} {ok ok' : Bool} {v : Int} (h : NumS ys ok v y' ok') : 0 ≤ v ∧ v ≤ 4611686018427387903 ∧ y'.length ≤ ys.length := by
 rcases h with ⟨_, h, _⟩ | ⟨_, _, rfl, rfl, _⟩ | ⟨_, rfl, rfl, _⟩
 ·have := pn_bd h; omega
 ·exact ⟨by omega, by omega, Nat.le_refl _⟩
 ·exact ⟨by omega, by omega, Nat.le_refl _⟩
def CutS (n : Nat) (ys : List UInt8) (ok : Bool) (bs y' : List UInt8) (ok' : Bool) : Prop :=
 (ok = true ∧ ptk n ys = some (bs, y') ∧ ok' = true) ∨ (ok = true ∧ ptk n ys = none ∧ bs = [] ∧ y' = ys ∧ ok' = false) ∨ (ok = false ∧ bs = [] ∧ y' = ys ∧ ok' = false)
theorem CutS.bd {ys y' bs : List UInt8} {ok ok' : Bool} {n : Nat} (h : CutS n ys ok bs y' ok') : bs.length ≤ ys.length := by
 rcases h with ⟨_, h, _⟩ | ⟨_, _, rfl, rfl, _⟩ | ⟨_, rfl, rfl, _⟩
 ·have := ptk_bd h; omega
 ·simp
 ·simp
/-- A reader of the reference in memory: what is left to read, and whether all went well. -/
structure Rq (w : World) (rb : Nat) (a : Option Addr) (m cap : Nat) (xs : List UInt8) (p : Nat) (ys : List UInt8) (ok : Bool) : Prop where
 by_ : By w a m cap xs
 k : Rr w rb a m cap p ok
 le : p ≤ m
 d : xs.drop p = ys
 ne : ∀ b, a.map (·.block) = some b → b ≠ rb
 small : m ≤ 1000000
theorem Rq.len {w : World} {rb : Nat} {a : Option Addr} {m cap : Nat} {xs : List UInt8} {p : Nat} {ys : List UInt8} {ok : Bool} (h : Rq w rb a m cap xs p ys ok) : ys.length = m - p := by rw [← h.d, List.length_drop, ← h.by_.1]
theorem Rq.keep {w w' : World} {rb : Nat} {a : Option Addr} {m cap : Nat} {xs : List UInt8} {p : Nat} {ys : List UInt8} {ok : Bool} {S : Nat → Prop} (h : Rq w rb a m cap xs p ys ok) (k : Keeps S w w') (h1 : ¬ S rb) (h2 : ∀ b, a.map (·.block) = some b → ¬ S b) : Rq w' rb a m cap xs p ys ok :=
 ⟨h.by_.keep k h2, k.blk h.k h1, h.le, h.d, h.ne, h.small⟩
theorem Rq.same {w w' : World} {rb : Nat} {a : Option Addr} {m cap : Nat} {xs : List UInt8} {p : Nat} {ys : List UInt8} {ok : Bool} (h : Rq w rb a m cap xs p ys ok) (k : Keeps (fun _ => False) w w') : Rq w' rb a m cap xs p ys ok := h.keep k (fun h => h) (fun _ _ h => h)
theorem Rq.lt {w : World} {rb : Nat} {a : Option Addr} {m cap : Nat} {xs : List UInt8} {p : Nat} {ys : List UInt8} {ok : Bool} (h : Rq w rb a m cap xs p ys ok) : rb < w.heap.size := Blk.lt h.k

theorem rnum_q (rb : Nat) (a : Option Addr) (m cap : Nat) (xs : List UInt8) (p : Nat) (ys : List UInt8) (ok : Bool) (w : World) (hr : Rq w rb a m cap xs p ys ok) :
  Calls Try.prog 30 #[.pointer (some ⟨rb, 0, none⟩)] w fun e w' => Keeps (fun k => k = rb) w w' ∧ ∃ v p' y' ok', e = .returned (.int .u64 v) ∧ Rq w' rb a m cap xs p' y' ok' ∧ NumS ys ok v y' ok' := by
 have hl := hr.len
 have hle := hr.le
 refine (rnumq_any rb a m cap xs p ok w hr.by_ hr.k hr.le (by have := hr.small; omega)).mono ?_
 rintro e w' ⟨rfl, hr', hk⟩
 refine ⟨hk, ?_⟩
 have hby := hr.by_.keep hk (fun b hb => hr.ne b hb)
 cases ok with
 | false =>
  have e1 : numSQ xs p false = (0, p, false) := by unfold numSQ; rw [if_pos rfl]
  rw [e1] at hr' ⊢
  exact ⟨0, p, ys, false, rfl, ⟨hby, hr', hr.le, hr.d, hr.ne, hr.small⟩, .inr (.inr ⟨rfl, rfl, rfl, rfl⟩)⟩
 | true =>
  rcases rv_facts ys with ⟨f1, f2, f3⟩ | ⟨j, j1, j8, jl, f2, f1, f3, f4⟩
  ·have e1 : numSQ xs p true = (0, p, false) := by unfold numSQ; rw [if_neg (by decide), hr.d, f1, if_pos (by decide)]
   rw [e1] at hr' ⊢
   exact ⟨0, p, ys, false, rfl, ⟨hby, hr', hr.le, hr.d, hr.ne, hr.small⟩, .inr (.inl ⟨rfl, pn_bad f1, rfl, rfl, rfl⟩)⟩
  ·have e1 : numSQ xs p true = (rvV ys, p + j, true) := by unfold numSQ; rw [if_neg (by decide), hr.d, f1, f2, if_neg (by decide)]; simp
   rw [e1] at hr' ⊢
   exact ⟨rvV ys, p + j, ys.drop j, true, rfl, ⟨hby, hr', by omega, by rw [← List.drop_drop, hr.d], hr.ne, hr.small⟩, .inl ⟨rfl, pn_good f1 f2, rfl⟩⟩
theorem rcut_q (rb : Nat) (a : Option Addr) (m cap : Nat) (xs : List UInt8) (p : Nat) (ys : List UInt8) (ok : Bool) (n : Nat) (w : World) (hr : Rq w rb a m cap xs p ys ok) (hn : n ≤ 4611686018427387903) :
  Calls Try.prog 33 #[.pointer (some ⟨rb, 0, none⟩), .int .u64 (n : Int)] w fun e w' => Keeps (fun k => k = rb) w w' ∧ ∃ a1 n1 c1 bs p' y' ok', e = .returned (.slice a1 n1 c1) ∧ Bo w.heap.size w' a1 n1 c1 bs ∧ Rq w' rb a m cap xs p' y' ok' ∧ CutS n ys ok bs y' ok' := by
 have hl := hr.len
 have hle := hr.le
 have hm := hr.by_.1
 refine (rcutq_any rb a m cap xs p ok n w hr.by_ hr.k hr.le (by have := hr.small; omega) hn hr.lt).mono ?_
 rintro e w' ⟨a1, n1, c1, rfl, ho, hr', hk⟩
 refine ⟨hk, a1, n1, c1, ?_⟩
 have hby := hr.by_.keep hk (fun b hb => hr.ne b hb)
 cases ok with
 | false =>
  have e1 : cutSQ xs p false n = ([], p, false) := by unfold cutSQ; rw [if_pos (.inl rfl)]
  rw [e1] at hr' ho
  exact ⟨[], p, ys, false, rfl, ho, ⟨hby, hr', hr.le, hr.d, hr.ne, hr.small⟩, .inr (.inr ⟨rfl, rfl, rfl, rfl⟩)⟩
 | true =>
  by_cases hgt : xs.length - p < n
  ·have e1 : cutSQ xs p true n = ([], p, false) := by unfold cutSQ; rw [if_pos (.inr hgt)]
   rw [e1] at hr' ho
   exact ⟨[], p, ys, false, rfl, ho, ⟨hby, hr', hr.le, hr.d, hr.ne, hr.small⟩, .inr (.inl ⟨rfl, ptk_no (by omega), rfl, rfl, rfl⟩)⟩
  ·have e1 : cutSQ xs p true n = ((xs.drop p).take n, p + n, true) := by unfold cutSQ; rw [if_neg (by simp; omega)]
   rw [e1] at hr' ho
   exact ⟨(xs.drop p).take n, p + n, ys.drop n, true, rfl, ho, ⟨hby, hr', by omega, by rw [← List.drop_drop, hr.d], hr.ne, hr.small⟩, .inl ⟨rfl, by rw [hr.d]; exact ptk_yes (by omega), rfl⟩⟩

end Go.Proofs.Ytgfkgmmigbpciaa

/- readAck of the package bifoldref17. -/
namespace Go.Proofs.Ytgfkgmmigbpciaa
set_option linter.unusedSimpArgs false
set_option linter.unusedVariables false
open Go.RowKit Go.Deep

theorem Ra.monoR {b b' : Nat} {w : World} {a : Option Addr} {n cap : Nat} {l : List (Int × Int)} (h : Ra b w a n cap l) (hb : b' ≤ b) : Ra b' w a n cap l := by
 refine ⟨h.1, h.2.1, Or.imp id ?_ h.2.2⟩
 rintro ⟨g, cap', cur, hv, hg, rest⟩
 exact ⟨g, cap', cur, hv, Nat.le_trans hb hg, rest⟩
theorem NumS.yes {ys y' : List UInt8} {ok : Bool} {v : Int} (h : NumS ys ok v y' true) : ok = true ∧ pn ys = some (v, y') := by
 rcases h with ⟨h1, h2, _⟩ | ⟨_, _, _, _, h⟩ | ⟨_, _, _, h⟩
 ·exact ⟨h1, h2⟩
 ·cases h
 ·cases h
theorem ack_dead {ys y1 y2 y3 y4 : List UInt8} {v1 v2 v3 v4 : Int} {o1 o2 o3 : Bool} (h1 : NumS ys true v1 y1 o1) (h2 : NumS y1 o1 v2 y2 o2) (h3 : NumS y2 o2 v3 y3 o3) (h4 : NumS y3 o3 v4 y4 false) : ackD ys = none := by
 unfold ackD
 rcases h1 with ⟨_, h1, rfl⟩ | ⟨_, h1, _, _, rfl⟩ | ⟨h, _⟩
 ·rw [pb_some _ h1]
  rcases h2 with ⟨_, h2, rfl⟩ | ⟨_, h2, _, _, rfl⟩ | ⟨h, _⟩
  ·rw [pb_some _ h2]
   rcases h3 with ⟨_, h3, rfl⟩ | ⟨_, h3, _, _, rfl⟩ | ⟨h, _⟩
   ·rw [pb_some _ h3]
    rcases h4 with ⟨_, _, h⟩ | ⟨_, h4, _⟩ | ⟨h, _⟩
    ·cases h
    ·rw [pb_none _ h4]; split <;> rfl
    ·cases h
   ·rw [pb_none _ h3]
   ·cases h
  ·rw [pb_none _ h2]
  ·cases h
 ·rw [pb_none _ h1]
 ·cases h
theorem prs_dead {n : Nat} {F g d : Int} {y y1 y2 : List UInt8} {o1 : Bool} (h1 : NumS y true g y1 o1) (h2 : NumS y1 o1 d y2 false) : prs (n + 1) F y = none := by
 rw [prs_n]
 rcases h1 with ⟨_, h1, rfl⟩ | ⟨_, h1, _, _, rfl⟩ | ⟨h, _⟩
 ·rw [pb_some _ h1]
  rcases h2 with ⟨_, _, h⟩ | ⟨_, h2, _⟩ | ⟨h, _⟩
  ·cases h
  ·rw [pb_none _ h2]; split <;> rfl
  ·cases h
 ·rw [pb_none _ h1]
 ·cases h

set_option maxRecDepth 100000 in
set_option maxHeartbeats 6400000 in
theorem rreadack_any (rb fb : Nat) (a : Option Addr) (m cap : Nat) (xs : List UInt8) (p : Nat) (ys : List UInt8) (w : World) {u0 u1 u2 u3 u4 u5 u6 u7 u8 u9 u10 u11 : Value} (hr : Rq w rb a m cap xs p ys true) (hlt : ∀ b, a.map (·.block) = some b → b < w.heap.size) (hf : Blk w fb #[u0, u1, u2, u3, u4, u5, u6, u7, u8, u9, u10, u11] 32) (hne : fb ≠ rb) (hfa : ∀ b, a.map (·.block) = some b → b ≠ fb) :
  Calls Try.prog 32 #[.pointer (some ⟨rb, 0, none⟩), .pointer (some ⟨fb, 0, none⟩)] w fun e w' => Keeps (fun k => k = rb ∨ k = fb) w w' ∧ ((e = .returned (.bool false) ∧ ackD ys = none) ∨ ∃ delay rl al n cl p' y', e = .returned (.bool true) ∧ ackD ys = some (⟨2, 0, 0, false, 0, 0, delay, rl, [], false, false, 0⟩, y') ∧ Blk w' fb #[u0, u1, u2, u3, u4, u5, .int .u64 delay, .slice al n cl, u8, u9, u10, u11] 32 ∧ Ra w.heap.size w' al n cl rl ∧ (∀ r ∈ rl, inU r.1 ∧ inU r.2) ∧ inU delay ∧ Rq w' rb a m cap xs p' y' true) := by
 have HR := Lib.hid hr
 have HLT := Lib.hid hlt
 have HF := Lib.hid hf
 have HNE := Lib.hid hne
 have HFA := Lib.hid hfa
 have HRB : Hid (rb < w.heap.size ∧ fb < w.heap.size) := Lib.hid ⟨hr.lt, hf.lt⟩
 have HK : Hid (Keeps (fun k => k = rb ∨ k = fb) w w) := Lib.hid (Keeps.refl _ _)
 clear hr hlt hf hne hfa
 go_enter Try.func32, Try.ntmps32
 go_wp2_with fail
 refine (rnum_q rb a m cap xs p ys true w HR.out).mono ?_
 rintro e w1 ⟨hk, v1, p1, y1, ok1, rfl, hr, hs⟩
 have HK1 := Lib.hid (HK.out.trans (hk.mono (fun _ _ h => Or.inl h)))
 have HF1 := Lib.hid (hk.blk HF.out HNE.out)
 have HR1 := Lib.hid hr
 have HN1 := Lib.hid hs
 clear hk hr hs
 go_wp2_with fail
 refine (rnum_q rb a m cap xs p1 y1 ok1 w1 HR1.out).mono ?_
 rintro e w2 ⟨hk, v2, p2, y2, ok2, rfl, hr, hs⟩
 have HK2 := Lib.hid (HK1.out.trans (hk.mono (fun _ _ h => Or.inl h)))
 have HF2 := Lib.hid (hk.blk HF1.out HNE.out)
 have HR2 := Lib.hid hr
 have HN2 := Lib.hid hs
 clear hk hr hs
 have c6 : w2.cell? ⟨fb, 6, none⟩ = some u6 := HF2.out.cell 6
 have f6 : w2.frozen? ⟨fb, 6, none⟩ = false := HF2.out.free 6
 go_wp2_with fail
 refine calls_named ?_
 intro w2b hw2b
 clear c6 f6
 have hkp : Keeps (fun k => k = fb) w2 w2b := by rw [← hw2b]; exact (Keeps.refl (fun k => k = fb) w2).put 6 (.int .u64 v2)
 have HF2b : Hid (Blk w2b fb #[u0, u1, u2, u3, u4, u5, .int .u64 v2, u7, u8, u9, u10, u11] 32) := Lib.hid (by rw [← hw2b]; exact (HF2.out.set 6 (.int .u64 v2)).as rfl)
 have HK2b := Lib.hid (HK2.out.trans (hkp.mono (fun _ _ h => Or.inr h)))
 have HR2b := Lib.hid (HR2.out.keep hkp (fun h => HNE.out h.symm) (fun b hb h => HFA.out b hb h))
 clear hkp hw2b
 refine (rnum_q rb a m cap xs p2 y2 ok2 w2b HR2b.out).mono ?_
 rintro e w3 ⟨hk, v3, p3, y3, ok3, rfl, hr, hs⟩
 have HK3 := Lib.hid (HK2b.out.trans (hk.mono (fun _ _ h => Or.inl h)))
 have HF3 := Lib.hid (hk.blk HF2b.out HNE.out)
 have HR3 := Lib.hid hr
 have HN3 := Lib.hid hs
 clear hk hr hs
 go_wp2_with fail
 refine (rnum_q rb a m cap xs p3 y3 ok3 w3 HR3.out).mono ?_
 rintro e w4 ⟨hk, v4, p4, y4, ok4, rfl, hr, hs⟩
 have HK4 := Lib.hid (HK3.out.trans (hk.mono (fun _ _ h => Or.inl h)))
 have HF4 := Lib.hid (hk.blk HF3.out HNE.out)
 have HR4 := Lib.hid hr
 have HN4 := Lib.hid hs
 clear hk hr hs
 have c2 : w4.cell? ⟨rb, 2, none⟩ = some (.bool ok4) := HR4.out.k.cells.1.2.2
 cases ok4 with
 | false =>
  have HD : Hid (ackD ys = none) := Lib.hid (ack_dead HN1.out HN2.out HN3.out HN4.out)
  go_wp2_with fail
  go_returns
  exact ⟨HK4.out, .inl ⟨rfl, HD.out⟩⟩
 | true =>
  obtain ⟨rfl, q4⟩ := HN4.out.yes
  obtain ⟨rfl, q3⟩ := HN3.out.yes
  obtain ⟨rfl, q2⟩ := HN2.out.yes
  obtain ⟨_, q1⟩ := HN1.out.yes
  have HQ1 := Lib.hid q1
  have HQ2 := Lib.hid q2
  have HQ3 := Lib.hid q3
  have HQ4 := Lib.hid q4
  have HV1 := Lib.hid HN1.out.bd
  have HV2 := Lib.hid HN2.out.bd
  have HV3 := Lib.hid HN3.out.bd
  have HV4 := Lib.hid HN4.out.bd
  clear q1 q2 q3 q4
  obtain ⟨N, hN⟩ : ∃ N : Nat, v3 = N := ⟨v3.toNat, by have := HV3.out; omega⟩
  subst hN
  by_cases hn : 32 ≤ N
  ·have hd : decide ((32 : Int) ≤ (N : Int)) = true := by simp; omega
   have hd2 : (32 : Int) ≤ (N : Int) := by omega
   have HD : Hid (ackD ys = none) := Lib.hid (by unfold ackD; rw [pb_some _ HQ1.out, pb_some _ HQ2.out, pb_some _ HQ3.out, if_pos (by omega)])
   clear hn
   go_wp2_with fail
   go_returns
   exact ⟨HK4.out, .inl ⟨rfl, HD.out⟩⟩
  have hd : decide ((32 : Int) ≤ (N : Int)) = false := by simp; omega
  have HM : Hid ((N : Int) < 32) := Lib.hid (by omega)
  by_cases hld : v4 ≤ v1
  rotate_left
  ·have hd3 : decide (v1 < v4) = true := by simp; omega
   have HD : Hid (ackD ys = none) := Lib.hid (by unfold ackD; rw [pb_some _ HQ1.out, pb_some _ HQ2.out, pb_some _ HQ3.out, if_neg (by omega), pb_some _ HQ4.out, if_pos (by omega)])
   clear hn hld
   go_wp2_with fail
   go_returns
   exact ⟨HK4.out, .inl ⟨rfl, HD.out⟩⟩
  have hd3 : decide (v1 < v4) = false := by simp; omega
  have HLD := Lib.hid hld
  have c7 : w4.cell? ⟨fb, 7, none⟩ = some u7 := HF4.out.cell 7
  have f7 : w4.frozen? ⟨fb, 7, none⟩ = false := HF4.out.free 7
  obtain ⟨F0, hF0⟩ : ∃ F0, v1 - v4 = F0 := ⟨_, rfl⟩
  have HF0' : Hid (0 ≤ F0 ∧ F0 ≤ v1) := Lib.hid (by have h1 := HLD.out; have h2 := HV4.out; omega)
  have HDD : Hid (ackD ys = pb (prs N F0 y4) fun l y5 => some (⟨2, 0, 0, false, 0, 0, v2, (F0, v1) :: l, [], false, false, 0⟩, y5)) := Lib.hid (by
   unfold ackD
   rw [pb_some _ HQ1.out, pb_some _ HQ2.out, pb_some _ HQ3.out, if_neg (by omega), pb_some _ HQ4.out, if_neg (by omega), Int.toNat_natCast, hF0])
  have c7a : ∀ o, (w4.alloc o).cell? ⟨fb, 7, none⟩ = some u7 := fun o => (HF4.out.alloc o).cell 7
  have f7a : ∀ o, (w4.alloc o).frozen? ⟨fb, 7, none⟩ = false := fun o => (HF4.out.alloc o).free 7
  have hwF : IntKind.u64.wrap F0 = F0 := by have h1 := HF0'.out; have h2 := HV1.out; rw [IntKind.wrap_u64]; omega
  go_upto_region 8 with fail
  refine wp_named ?_
  intro w5 hw5
  have HW5 : Hid (Ra w.heap.size w5 (some ⟨w4.heap.size, 0, none⟩) 1 1 [(F0, v1)]) := Lib.hid (by
   rw [← hw5]
   exact (Ra.new (base := w4.heap.size) w4 F0 v1 (Nat.le_refl _)).keep ((Keeps.refl (fun k => k = fb) _).put 7 _) (fun b hb h => by cases hb; have := HF4.out.lt; dsimp only at h; omega) |>.monoR HK4.out.size)
  have hkp : Keeps (fun k => k = fb) w4 w5 := by rw [← hw5]; exact ((Keeps.refl (fun k => k = fb) w4).alloc _).put 7 _
  have HF5 : Hid (Blk w5 fb #[u0, u1, u2, u3, u4, u5, .int .u64 v2, .slice (some ⟨w4.heap.size, 0, none⟩) 1 1, u8, u9, u10, u11] 32) := Lib.hid (by rw [← hw5]; exact ((HF4.out.alloc _).set 7 (.slice (some ⟨w4.heap.size, 0, none⟩) 1 1)).as rfl)
  have HK5 := Lib.hid (HK4.out.trans (hkp.mono (fun _ _ h => Or.inr h)))
  have HR5 := Lib.hid (HR4.out.keep hkp (fun h => HNE.out h.symm) (fun b hb h => HFA.out b hb h))
  have hsz : w.heap.size ≤ w4.heap.size := HK4.out.size
  clear hw5 hkp hwF hF0 hn hd hd3 hld c2 c7 f7 c7a f7a
  generalize w4.heap.size = g0 at *
  go_wp2_with fail
  go_loopg [8] N (fun k v8 wr => ∃ (i : Nat) (al : Option Addr) (cl : Nat) (M : List (Int × Int)) (F G : Int) (q : Nat) (y : List UInt8), v8 = .int .u64 (i : Int) ∧ k + i = N ∧ M.length = i ∧ Ra w.heap.size wr al (i + 1) cl (M ++ [(F, G)]) ∧ (∀ r ∈ M ++ [(F, G)], inU r.1 ∧ inU r.2) ∧ (0 ≤ F ∧ F ≤ 4611686018427387903) ∧ (∃ M', M ++ [(F, G)] = (F0, v1) :: M' ∧ prs N F0 y4 = preR M' (prs k F y)) ∧ Rq wr rb a m cap xs q y true ∧ Keeps (fun k => k = rb ∨ k = fb) w wr ∧ Blk wr fb #[u0, u1, u2, u3, u4, u5, .int .u64 v2, .slice al (i + 1) cl, u8, u9, u10, u11] 32)
  case atStart => exact ⟨0, _, _, [], F0, v1, _, _, rfl, by omega, rfl, HW5.out, (fun r hr => by simp at hr; subst hr; have h1 := HF0'.out; have h2 := HV1.out; exact ⟨⟨by show 0 ≤ F0; omega, by show F0 ≤ _; omega⟩, ⟨by show 0 ≤ v1; omega, by show v1 ≤ _; omega⟩⟩), by have h1 := HF0'.out; have h2 := HV1.out; omega, ⟨[], rfl, (preR_nil _).symm⟩, HR5.out, HK5.out, HF5.out⟩
  case round =>
   obtain ⟨i, al, cl, M, F, G, q, y, rfl, hki, hM, hra, hin, hF, ⟨M', hMM, hpr⟩, hre, hkw, hbw⟩ := hrel
   obtain ⟨g, off, rfl, c0⟩ := hra.last hM
   have HKI := Lib.hid hki
   have HM1 := Lib.hid hM
   have HRA1 := Lib.hid hra
   have HIN := Lib.hid hin
   have HFB := Lib.hid hF
   have HMM := Lib.hid hMM
   have HPR := Lib.hid hpr
   have HRE := Lib.hid hre
   have HKW := Lib.hid hkw
   have HBW := Lib.hid hbw
   clear hki hM hra hin hF hMM hpr hre hkw hbw c0
   have HG : Hid (w.heap.size ≤ g ∧ g ≠ rb ∧ g ≠ fb) := Lib.hid (by have h1 := (HRA1.out.ge g rfl).1; have h2 := HRB.out; omega)
   by_cases hi : i < N
   ·obtain ⟨k, rfl⟩ : ∃ k, gk = k + 1 := ⟨gk - 1, by have := HKI.out; omega⟩
    have hi0 : (0 : Int) ≤ (i : Int) := by omega
    have hi1 : (i : Int) < ((i : Int) + 1) := by omega
    have hiN : decide ((i : Int) < (N : Int)) = true := by simp; omega
    have hi32 : (i : Int) < 32 := by have := HM.out; omega
    go_wp2_with fail
    refine (rnum_q rb a m cap xs q y true wr HRE.out).mono ?_
    rintro e w6 ⟨hk6, v5, p6, y6, ok6, rfl, hr6, hs6⟩
    have HK6 := Lib.hid (HKW.out.trans (hk6.mono (fun _ _ h => Or.inl h)))
    have HB6 := Lib.hid (hk6.blk HBW.out HNE.out)
    have HA6 := Lib.hid (HRA1.out.keep hk6 (fun b hb h => by cases hb; exact HG.out.2.1 h))
    have HR6 := Lib.hid hr6
    have HN6 := Lib.hid hs6
    clear hk6 hr6 hs6
    go_wp2_with fail
    refine (rnum_q rb a m cap xs p6 y6 ok6 w6 HR6.out).mono ?_
    rintro e w7 ⟨hk7, v6, p7, y7, ok7, rfl, hr7, hs7⟩
    have HK7 := Lib.hid (HK6.out.trans (hk7.mono (fun _ _ h => Or.inl h)))
    have HB7 := Lib.hid (hk7.blk HB6.out HNE.out)
    have HA7 := Lib.hid (HA6.out.keep hk7 (fun b hb h => by cases hb; exact HG.out.2.1 h))
    have HR7 := Lib.hid hr7
    have HN7 := Lib.hid hs7
    clear hk7 hr7 hs7
    obtain ⟨g', off', he, c0⟩ := HA7.out.last HM1.out
    cases he
    have c7 : w7.cell? ⟨fb, 7, none⟩ = some (.slice (some ⟨g, off, none⟩) (i + 1) cl) := HB7.out.cell 7
    have f7 : w7.frozen? ⟨fb, 7, none⟩ = false := HB7.out.free 7
    have c2 : w7.cell? ⟨rb, 2, none⟩ = some (.bool ok7) := HR7.out.k.cells.1.2.2
    have HV5 := Lib.hid HN6.out.bd
    have HV6 := Lib.hid HN7.out.bd
    cases ok7 with
    | false =>
     have HD : Hid (ackD ys = none) := Lib.hid (by rw [HDD.out, HPR.out, prs_dead HN6.out HN7.out, preR_none]; rfl)
     go_wp2_with fail
     go_returns
     exact ⟨HK7.out, .inl ⟨rfl, HD.out⟩⟩
    | true =>
     obtain ⟨rfl, q7⟩ := HN7.out.yes
     obtain ⟨_, q6⟩ := HN6.out.yes
     have HQ6 := Lib.hid q6
     have HQ7 := Lib.hid q7
     clear q6 q7
     have hv5 := HV5.out
     have hv6 := HV6.out
     by_cases hg1 : F < 2
     ·have e1 : decide (F < 2) = true := decide_eq_true hg1
      have HD : Hid (ackD ys = none) := Lib.hid (by rw [HDD.out, HPR.out, prs_n, pb_some _ HQ6.out, if_pos (by omega), preR_none]; rfl)
      go_wp2_with fail
      go_returns
      exact ⟨HK7.out, .inl ⟨rfl, HD.out⟩⟩
     have e1 : decide (F < 2) = false := decide_eq_false hg1
     have hF2 : 2 ≤ F := by omega
     by_cases hg2 : F - 2 < v5
     ·have e2 : decide (F - 2 < v5) = true := decide_eq_true hg2
      have HD : Hid (ackD ys = none) := Lib.hid (by rw [HDD.out, HPR.out, prs_n, pb_some _ HQ6.out, if_pos (by omega), preR_none]; rfl)
      go_wp2_with fail
      go_returns
      exact ⟨HK7.out, .inl ⟨rfl, HD.out⟩⟩
     have e2 : decide (F - 2 < v5) = false := decide_eq_false hg2
     have hF3 : v5 ≤ F - 2 := by omega
     by_cases hg3 : F - 2 - v5 < v6
     ·have e3 : decide (F - 2 - v5 < v6) = true := decide_eq_true hg3
      have HD : Hid (ackD ys = none) := Lib.hid (by rw [HDD.out, HPR.out, prs_n, pb_some _ HQ6.out, if_neg (by omega), pb_some _ HQ7.out, if_pos (by omega), preR_none]; rfl)
      go_wp2_with fail
      go_returns
      exact ⟨HK7.out, .inl ⟨rfl, HD.out⟩⟩
     have e3 : decide (F - 2 - v5 < v6) = false := decide_eq_false hg3
     have hF4 : v6 ≤ F - 2 - v5 := by omega
     have hFm := HFB.out
     go_wp2_with (at_builtin; refine halt ?_)
     refine Halted.go (wpList_ra w7 rfl _ _ rfl w.heap.size _ (i + 1) cl (M ++ [(F, G)]) rfl HA7.out (F - 2 - v5 - v6) (F - 2 - v5) rfl (by omega) HK7.out.size ?_)
     intro a8 c8 w8 hra8 hk8 hn8
     have HA8 := Lib.hid hra8
     have HR8 := Lib.hid (HR7.out.keep hk8 (mine_ge HRB.out.1) (fun b hb => mine_ge (HLT.out b hb)))
     have HB8 := Lib.hid (hk8.blk HB7.out (mine_ge HRB.out.2))
     have HK8 : Hid (Keeps (fun k => k = rb ∨ k = fb) w w8) := Lib.hid (Keeps.trans2 HK7.out hk8 (fun x hx hS => absurd hS.1 (by omega)))
     have c7' : w8.cell? ⟨fb, 7, none⟩ = some (.slice (some ⟨g, off, none⟩) (i + 1) cl) := HB8.out.cell 7
     have f7' : w8.frozen? ⟨fb, 7, none⟩ = false := HB8.out.free 7
     have HGE : Hid (∀ b, a8.map (·.block) = some b → b ≠ fb) := Lib.hid (fun b hb => by have h1 := (HA8.out.ge b hb).1; have h2 := HRB.out.2; omega)
     clear hra8 hk8 hn8 c7 f7 c2 c0 hg1 hg2 hg3 e1 e2 e3
     have HP8 : Hid (prs N F0 y4 = preR (M' ++ [(F - 2 - v5 - v6, F - 2 - v5)]) (prs k (F - 2 - v5 - v6) y7)) := Lib.hid (by
      rw [HPR.out, prs_n, pb_some _ HQ6.out, if_neg (by omega), pb_some _ HQ7.out, if_neg (by omega), preR_cons, show F - v5 - 2 = F - 2 - v5 by omega])
     have HN8 : Hid (∀ r ∈ M ++ [(F, G)] ++ [(F - 2 - v5 - v6, F - 2 - v5)], inU r.1 ∧ inU r.2) := Lib.hid (fun r hr => by
      rcases List.mem_append.1 hr with h | h
      ·exact HIN.out r h
      ·simp only [List.mem_cons, List.not_mem_nil, or_false] at h
       subst h
       exact ⟨⟨by show 0 ≤ F - 2 - v5 - v6; omega, by show F - 2 - v5 - v6 ≤ _; omega⟩, ⟨by show 0 ≤ F - 2 - v5; omega, by show F - 2 - v5 ≤ _; omega⟩⟩)
     have HF8 : Hid (0 ≤ F - 2 - v5 - v6 ∧ F - 2 - v5 - v6 ≤ 4611686018427387903) := Lib.hid (by omega)
     go_wp2_with fail
     go_roundg k
     case measure => omega
     case rel =>
      have hkp : Keeps (fun k => k = fb) w8 (w8.setCell ⟨fb, 7, none⟩ (.slice a8 (i + 1 + 1) c8)) := (Keeps.refl (fun k => k = fb) w8).put 7 _
      exact ⟨i + 1, a8, c8, M ++ [(F, G)], F - 2 - v5 - v6, F - 2 - v5, p7, y7, by go_num, by have := HKI.out; omega, by simp [HM1.out], HA8.out.keep hkp (fun b hb h => HGE.out b hb h), HN8.out, HF8.out, ⟨M' ++ [(F - 2 - v5 - v6, F - 2 - v5)], by rw [HMM.out, List.cons_append], HP8.out⟩, HR8.out.keep hkp (fun h => HNE.out h.symm) (fun b hb h => HFA.out b hb h), HK8.out.trans (hkp.mono (fun _ _ h => Or.inr h)), (HB8.out.set 7 (.slice a8 (i + 1 + 1) c8)).as rfl⟩
   ·have hgk : gk = 0 := by have := HKI.out; omega
    have hiN : decide ((i : Int) < (N : Int)) = false := by simp; omega
    have HD : Hid (ackD ys = some (⟨2, 0, 0, false, 0, 0, v2, (F0, v1) :: M', [], false, false, 0⟩, y)) := Lib.hid (by
     rw [HDD.out, HPR.out, hgk, prs_0]
     simp [preR, pb])
    clear hgk
    go_wp2_with fail
    go_returns
    exact ⟨HKW.out, .inr ⟨v2, (F0, v1) :: M', _, _, _, q, y, rfl, HD.out, HBW.out, by have h := HRA1.out; rw [HMM.out] at h; exact h, fun r hr => HIN.out r (by rw [HMM.out]; exact hr), ⟨HV2.out.1, by have := HV2.out; omega⟩, HRE.out⟩⟩

end Go.Proofs.Ytgfkgmmigbpciaa

/- The reference's reader, as it goes on after something failed: the plain law. -/
namespace Go.Proofs.Ytgfkgmmigbpciaa
set_option linter.unusedSimpArgs false
set_option linter.unusedVariables false
open Go.RowKit Go.Deep

/-- Something was read, or it was given up, now or before. -/
def OptS {α : Type} (o : Bool) (r : Option (α × List UInt8)) (x : α) (y' : List UInt8) (o' : Bool) : Prop :=
 (o = true ∧ r = some (x, y') ∧ o' = true) ∨ (o = true ∧ r = none ∧ o' = false) ∨ (o = false ∧ o' = false)
theorem NumS.opt {ys y' : List UInt8} {ok ok' : Bool} {v : Int} (h : NumS ys ok v y' ok') : OptS ok (pn ys) v y' ok' := by
 rcases h with h | ⟨h1, h2, _, _, h3⟩ | ⟨h1, _, _, h3⟩
 ·exact .inl h
 ·exact .inr (.inl ⟨h1, h2, h3⟩)
 ·exact .inr (.inr ⟨h1, h3⟩)
theorem CutS.opt {ys y' bs : List UInt8} {ok ok' : Bool} {n : Nat} (h : CutS n ys ok bs y' ok') : OptS ok (ptk n ys) bs y' ok' := by
 rcases h with h | ⟨h1, h2, _, _, h3⟩ | ⟨h1, _, _, h3⟩
 ·exact .inl h
 ·exact .inr (.inl ⟨h1, h2, h3⟩)
 ·exact .inr (.inr ⟨h1, h3⟩)
theorem OptS.ret {α : Type} {o : Bool} (x : α) (y : List UInt8) : OptS o (some (x, y)) x y o := by
 cases o
 ·exact .inr (.inr ⟨rfl, rfl⟩)
 ·exact .inl ⟨rfl, rfl, rfl⟩
theorem OptS.bind {α β : Type} {o o1 o2 : Bool} {r : Option (α × List UInt8)} {x : α} {y1 y2 : List UInt8} {f : α → List UInt8 → Option (β × List UInt8)} {z : β} (h : OptS o r x y1 o1) (k : OptS o1 (f x y1) z y2 o2) : OptS o (pb r f) z y2 o2 := by
 rcases h with ⟨h1, h2, h3⟩ | ⟨h1, h2, h3⟩ | ⟨h1, h3⟩
 ·rcases k with ⟨_, k2, k3⟩ | ⟨_, k2, k3⟩ | ⟨k1, _⟩
  ·exact .inl ⟨h1, by rw [pb_some _ h2, k2], k3⟩
  ·exact .inr (.inl ⟨h1, by rw [pb_some _ h2, k2], k3⟩)
  ·rw [h3] at k1; cases k1
 ·rcases k with ⟨k1, _⟩ | ⟨k1, _⟩ | ⟨_, k3⟩
  ·rw [h3] at k1; cases k1
  ·rw [h3] at k1; cases k1
  ·exact .inr (.inl ⟨h1, pb_none _ h2, k3⟩)
 ·rcases k with ⟨k1, _⟩ | ⟨k1, _⟩ | ⟨_, k3⟩
  ·rw [h3] at k1; cases k1
  ·rw [h3] at k1; cases k1
  ·exact .inr (.inr ⟨h1, k3⟩)
/-- What comes next says no. -/
theorem OptS.noB {α β : Type} {o o1 : Bool} {r : Option (α × List UInt8)} {x : α} {y1 : List UInt8} {f : α → List UInt8 → Option (β × List UInt8)} (z : β) (y2 : List UInt8) (h : OptS o r x y1 o1) (k : o1 = true → f x y1 = none) : OptS o (pb r f) z y2 false := by
 rcases h with ⟨h1, h2, h3⟩ | ⟨h1, h2, h3⟩ | ⟨h1, h3⟩
 ·exact .inr (.inl ⟨h1, by rw [pb_some _ h2, k h3], rfl⟩)
 ·exact .inr (.inl ⟨h1, pb_none _ h2, rfl⟩)
 ·exact .inr (.inr ⟨h1, rfl⟩)
theorem OptS.ite {α : Type} {o : Bool} {c : Prop} [Decidable c] (x : α) (y : List UInt8) (h : o = true → c) : OptS o (if c then some (x, y) else none) x y o := by
 cases o
 ·exact .inr (.inr ⟨rfl, rfl⟩)
 ·exact .inl ⟨rfl, by rw [if_pos (h rfl)], rfl⟩
theorem OptS.yes {α : Type} {o : Bool} {r : Option (α × List UInt8)} {x : α} {y : List UInt8} (h : OptS o r x y true) : o = true ∧ r = some (x, y) := by
 rcases h with ⟨h1, h2, _⟩ | ⟨_, _, h⟩ | ⟨_, h⟩
 ·exact ⟨h1, h2⟩
 ·cases h
 ·cases h
theorem OptS.no {α : Type} {r : Option (α × List UInt8)} {x : α} {y : List UInt8} (h : OptS true r x y false) : r = none := by
 rcases h with ⟨_, _, h⟩ | ⟨_, h, _⟩ | ⟨h, _⟩
 ·cases h
 ·exact h
 ·cases h
theorem OptS.ptx {ys y1 y2 bs : List UInt8} {o o1 o2 : Bool} {v : Int} {n : Nat} (h : NumS ys o v y1 o1) (k : CutS n y1 o1 bs y2 o2) (hn : v = (n : Int)) : OptS o (ptx ys) bs y2 o2 := by
 unfold Go.Proofs.Ytgfkgmmigbpciaa.ptx
 refine OptS.bind h.opt ?_
 rw [hn, Int.toNat_natCast]
 exact k.opt
theorem OptS.rest {ys y2 bs : List UInt8} {o o2 : Bool} {n : Nat} (k : CutS n ys o bs y2 o2) (hn : n = ys.length) : OptS o (some (ys, [])) bs y2 o2 := by
 have h := k.opt
 rw [ptk_yes (by omega), hn, List.take_of_length_le (Nat.le_refl _), List.drop_of_length_le (Nat.le_refl _)] at h
 exact h
theorem CutS.len {ys y' bs : List UInt8} {ok ok' : Bool} {n : Nat} (h : CutS n ys ok bs y' ok') (ho : ok' = true) : bs.length = n := by
 subst ho
 exact (ptk_bd (h.opt.yes).2).1
/-- A type of one byte that is nought. -/
theorem pn_nought {xs y : List UInt8} (h : pn xs = some (0, y)) (hl : rvL xs = varLenV 0) : ∃ rest, xs = 0 :: rest := by
 obtain ⟨_, _, hlen, k, hk, _⟩ := pn_bd h
 cases xs with
 | nil => simp at hlen
 | cons c l =>
  refine ⟨l, ?_⟩
  have hh : rvHave (c :: l) = true := by
   cases hb : rvHave (c :: l) with
   | true => rfl
   | false =>
    have he : rvE (c :: l) = 20 := by unfold rvE; rw [hb]; rfl
    rw [pn_bad he] at h
    cases h
  have h1 : rvN c = 1 := by
   unfold rvL at hl
   rw [hh, if_pos rfl] at hl
   simpa [varLenV] using hl
  have hlt : c.toNat < 256 := c.toNat_lt
  have hc : c.toNat < 64 := by
   rcases rvN_cases c hlt with ⟨g, _⟩ | ⟨_, _, g, _⟩ | ⟨_, _, g, _⟩ | ⟨_, g, _⟩
   ·exact g
   ·rw [g] at h1; cases h1
   ·rw [g] at h1; cases h1
   ·rw [g] at h1; cases h1
  have hv : varE (c.toNat : Int) = [c] := by
   unfold varE
   rw [if_pos (by omega)]
   congr 1
   apply UInt8.toNat_inj.1
   have := byt_val (c.toNat : Int)
   omega
  have h2 := (rv_varE (c.toNat : Int) (by omega) (by omega) l).1
  rw [hv] at h2
  have h3 : rvV (c :: l) = (c.toNat : Int) := h2
  have h4 : rvV (c :: l) = 0 := by
   unfold pn at h
   split at h
   ·exact (Prod.mk.inj (Option.some.inj h)).1
   ·cases h
  have h5 : c.toNat = 0 := by omega
  rw [UInt8.toNat_inj.1 (show c.toNat = (0 : UInt8).toNat from h5)]

theorem decQ_nil : decQ [] = none := by kernel_rfl
theorem decQ_pad (rest : List UInt8) : decQ (0 :: rest) = padD rest := by
 have hv : varE (0 : Int) = [0] := by kernel_rfl
 obtain ⟨a, b, c⟩ := rv_varE 0 (by omega) (by omega) rest
 rw [hv] at a b c
 have hp : pn (0 :: rest) = some (0, rest) := by
  unfold pn
  rw [show rvE (0 :: rest) = 0 from c, if_pos rfl, show rvV (0 :: rest) = 0 from a, show rvL (0 :: rest) = varLenV 0 from b]
  rfl
 unfold decQ
 rw [pb_some _ hp, if_pos (show rvL (0 :: rest) = varLenV 0 from b)]
 rfl
end Go.Proofs.Ytgfkgmmigbpciaa

/- What ReadFrame of the package bifoldref17 hands back. -/
namespace Go.Proofs.Ytgfkgmmigbpciaa
set_option linter.unusedSimpArgs false
set_option linter.unusedVariables false
open Go.RowKit Go.Deep

theorem rf_results (fr : Array Value) (w : World) (b : Nat) (v3 v4 : Value) {u0 u1 u2 u3 u4 u5 u6 u7 u8 u9 u10 u11 : Value} {t : TypeId} (h2 : fr[2]?.getD undef = .pointer (some ⟨b, 0, none⟩)) (h3 : fr[3]?.getD undef = v3) (h4 : fr[4]?.getD undef = v4) (hb : Blk w b #[u0, u1, u2, u3, u4, u5, u6, u7, u8, u9, u10, u11] t) :
  (results Try.f18 fr).run Try.prog w = .ok (.tuple #[.agg #[u0, u1, u2, u3, u4, u5, u6, u7, u8, u9, u10, u11], v3, v4]) w := by
 obtain ⟨s0, s1, s2, s3, s4, s5, s6, s7, s8, s9, s10, s11⟩ := q12_cells hb
 simp [results, Try.results18, go_sem, h2, h3, h4, s0, s1, s2, s3, s4, s5, s6, s7, s8, s9, s10, s11]

end Go.Proofs.Ytgfkgmmigbpciaa
