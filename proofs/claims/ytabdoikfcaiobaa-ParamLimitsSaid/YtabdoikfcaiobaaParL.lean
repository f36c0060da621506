/- The reader of the package bifoldref17: num and cut. -/
import Derived.Test.YtabdoikfcaiobaaParK
import Derived.Deep.RegionHeld3
namespace Go.Proofs.Ytabdoikfcaiobaa
open Go.RowKit Go.Deep Go.Maps

/-- A reader in memory. -/
def Rr (w : World) (rb : Nat) (a : Option Addr) (m cap : Nat) (at_ : Nat) (ok : Bool) : Prop := Blk w rb #[.slice a m cap, .int .i64 (at_ : Int), .bool ok] 57
theorem Rr.cells {w : World} {rb : Nat} {a : Option Addr} {m cap at_ : Nat} {ok : Bool} (h : Rr w rb a m cap at_ ok) :
    (w.cell? ⟨rb, 0, none⟩ = some (.slice a m cap) ∧ w.cell? ⟨rb, 1, none⟩ = some (.int .i64 (at_ : Int)) ∧ w.cell? ⟨rb, 2, none⟩ = some (.bool ok)) ∧ w.frozen? ⟨rb, 1, none⟩ = false ∧ w.frozen? ⟨rb, 2, none⟩ = false :=
  ⟨⟨Blk.cell h 0, Blk.cell h 1, Blk.cell h 2⟩, Blk.free h 1, Blk.free h 2⟩

def numS (xs : List UInt8) (at_ : Nat) (ok : Bool) : Int × Nat × Bool :=
  if ok = false then (0, at_, false) else if rvE (xs.drop at_) ≠ 0 then (0, at_, false) else (rvV (xs.drop at_), at_ + (rvL (xs.drop at_)).toNat, true)

set_option maxHeartbeats 1600000 in
theorem rnum_any (rb : Nat) (a : Option Addr) (m cap : Nat) (xs : List UInt8) (at_ : Nat) (ok : Bool) (w : World) (hb : By w a m cap xs) (hr : Rr w rb a m cap at_ ok) (hat : at_ ≤ m) (hl : m ≤ 1000000000) :
    Calls Try.prog 20 #[.pointer (some ⟨rb, 0, none⟩)] w fun e w' => e = .returned (.int .u64 (numS xs at_ ok).1) ∧ Rr w' rb a m cap (numS xs at_ ok).2.1 (numS xs at_ ok).2.2 ∧ Keeps (fun k => k = rb) w w' := by
  have hcap := hb.2.le
  have hmax := hb.2.max
  unfold maxLen at hmax
  have HB := Lib.hid hb
  have HR := Lib.hid hr
  clear hb hr
  obtain ⟨⟨c0, c1, c2⟩, y1, y2⟩ := HR.out.cells
  cases ok with
  | false =>
    have HE : Hid (numS xs at_ false = (0, at_, false)) := Lib.hid rfl
    go_enter Try.func20, Try.ntmps20
    go_wp2_with fail
    go_returns
    rw [HE.out]
    exact ⟨rfl, HR.out, Keeps.refl _ _⟩
  | true =>
    obtain ⟨r, hr⟩ : ∃ r, numS xs at_ true = r := ⟨_, rfl⟩
    rw [hr]
    have HF := Lib.hid (HB.out.from at_ hat)
    have hlen : (xs.drop at_).length = m - at_ := by rw [List.length_drop, ← HB.out.1]
    unfold numS at hr
    rw [if_neg (by decide)] at hr
    have HRR := Lib.hid hr
    clear hr
    generalize xs.drop at_ = ys at *
    have ho := offA_eq a cap at_
    have z1 : (0 : Int) ≤ (at_ : Int) := by omega
    have z2 : (at_ : Int) ≤ (m : Int) := by omega
    have z3 : (m : Int) ≤ (cap : Int) := by omega
    go_enter Try.func20, Try.ntmps20
    go_wp2_with fail
    go_region_held3 (fun w' => w'.cell? ⟨rb, 0, none⟩ = some (.slice a m cap) ∧ w'.cell? ⟨rb, 1, none⟩ = some (.int .i64 (at_ : Int)) ∧ w'.cell? ⟨rb, 2, none⟩ = some (.bool true)) (first | exact ⟨c0, c1, c2⟩ | go_keep)
      ((go_at_call 30; refine (readvarr_any (offA a cap at_) (m - at_) (cap - at_) ys _ (By.drew2 HF.out)).mono ?_; rintro e w' ⟨rfl, rfl⟩))
    clear ho
    have HRd : Hid (Rr w.drew rb a m cap at_ true) := Lib.hid (Blk.drew HR.out)
    have hkd : Keeps (fun k => k = rb) w w.drew := (Keeps.refl _ _).drew
    have HKD := Lib.hid hkd
    clear hkd
    rcases rv_facts ys with ⟨f1, f2, f3⟩ | ⟨j, j1, j8, jl, f2, f1, f3, f4⟩
    · have HE : Hid (r = (0, at_, false)) := Lib.hid (by rw [← HRR.out, f1, if_pos (by decide)])
      have HFI : Hid (Rr (w.setCell ⟨rb, 2, none⟩ (.bool false)).drew rb a m cap at_ false) := Lib.hid (Blk.drew (Blk.set HR.out 2 (.bool false)))
      have HKF : Hid (Keeps (fun k => k = rb) w (w.setCell ⟨rb, 2, none⟩ (.bool false)).drew) := Lib.hid (((Keeps.refl _ _).put 2 (.bool false)).drew)
      rw [f1, f2, f3]
      go_wp2_with fail
      go_returns
      rw [HE.out]
      exact ⟨rfl, HFI.out, HKF.out⟩
    · have HE : Hid (r = (rvV ys, at_ + j, true)) := Lib.hid (by rw [← HRR.out, f1, f2, if_neg (by decide)]; simp)
      rw [f1, f2]
      have HFI : Hid (Rr (w.setCell ⟨rb, 1, none⟩ (.int .i64 ((at_ : Int) + (j : Int)))).drew rb a m cap (at_ + j) true) := Lib.hid (by
        have h := Blk.drew (Blk.set HR.out 1 (.int .i64 ((at_ : Int) + (j : Int))))
        unfold Rr
        rw [show ((at_ + j : Nat) : Int) = (at_ : Int) + (j : Int) by omega]
        exact h)
      have HKF : Hid (Keeps (fun k => k = rb) w (w.setCell ⟨rb, 1, none⟩ (.int .i64 ((at_ : Int) + (j : Int)))).drew) := Lib.hid (((Keeps.refl _ _).put 1 _).drew)
      generalize rvV ys = v at *
      go_wp2_with fail
      go_returns
      rw [HE.out]
      exact ⟨rfl, HFI.out, HKF.out⟩


def cutS (xs : List UInt8) (at_ : Nat) (ok : Bool) (n : Nat) : List UInt8 × Nat × Bool :=
  if ok = false ∨ xs.length - at_ < n then ([], at_, false) else ((xs.drop at_).take n, at_ + n, true)

set_option maxRecDepth 100000 in
set_option maxHeartbeats 1600000 in
theorem rcut_any (rb : Nat) (a : Option Addr) (m cap : Nat) (xs : List UInt8) (at_ : Nat) (ok : Bool) (n : Nat) (w : World) (hb : By w a m cap xs) (hr : Rr w rb a m cap at_ ok) (hat : at_ ≤ m) (hl : m ≤ 1000000000) (hn : n ≤ 4611686018427387903) (hrb : rb < w.heap.size) :
    Calls Try.prog 21 #[.pointer (some ⟨rb, 0, none⟩), .int .u64 (n : Int)] w fun e w' => ∃ a1 n1 c1, e = .returned (.slice a1 n1 c1) ∧ Bo w.heap.size w' a1 n1 c1 (cutS xs at_ ok n).1 ∧ Rr w' rb a m cap (cutS xs at_ ok n).2.1 (cutS xs at_ ok n).2.2 ∧ Keeps (fun k => k = rb) w w' := by
  have hcap := hb.2.le
  have hmax := hb.2.max
  unfold maxLen at hmax
  have HB := Lib.hid hb
  have HR := Lib.hid hr
  have HN := Lib.hid hb.1
  clear hb hr
  obtain ⟨⟨c0, c1, c2⟩, y1, y2⟩ := HR.out.cells
  have HFI : Hid (Rr (w.setCell ⟨rb, 2, none⟩ (.bool false)).drew rb a m cap at_ false) := Lib.hid (Blk.drew (Blk.set HR.out 2 (.bool false)))
  have HKF : Hid (Keeps (fun k => k = rb) w (w.setCell ⟨rb, 2, none⟩ (.bool false)).drew) := Lib.hid (((Keeps.refl _ _).put 2 (.bool false)).drew)
  have z1 : (0 : Int) ≤ (at_ : Int) := by omega
  have z2 : (at_ : Int) ≤ (m : Int) := by omega
  have z3 : (m : Int) ≤ (cap : Int) := by omega
  cases ok with
  | false =>
    have HE : Hid (cutS xs at_ false n = ([], at_, false)) := Lib.hid (by unfold cutS; rw [if_pos (.inl rfl)])
    go_enter Try.func21, Try.ntmps21
    go_wp2_with fail
    go_quiet (fail)
    go_wp2_with fail
    go_returns
    rw [HE.out]
    first
    | exact ⟨none, 0, 0, rfl, Bo.nil _ _, Blk.drewN (Blk.set HR.out 2 (.bool false)) _, ((Keeps.refl _ _).put 2 (.bool false)).drewN _⟩
    | exact ⟨none, 0, 0, rfl, Bo.nil _ _, Blk.set (Blk.drewN HR.out _) 2 (.bool false), ((Keeps.refl _ _).drewN _).trans ((Keeps.refl _ _).put 2 (.bool false))⟩
    | trace_state
  | true =>
    have hwu : IntKind.u64.wrap ((m : Int) - (at_ : Int)) = (m : Int) - (at_ : Int) := by rw [IntKind.wrap_u64]; omega
    have hwi : IntKind.i64.wrap ((m : Int) - (at_ : Int)) = (m : Int) - (at_ : Int) := by rw [IntKind.wrap_i64]; omega
    by_cases hgt : m - at_ < n
    · have HE : Hid (cutS xs at_ true n = ([], at_, false)) := Lib.hid (by unfold cutS; rw [if_pos (.inr (by rw [← HN.out]; exact hgt))])
      have x1 : (m : Int) - (at_ : Int) < (n : Int) := by omega
      go_enter Try.func21, Try.ntmps21
      go_wp2_with fail
      go_region_held3 (fun w' => w'.cell? ⟨rb, 0, none⟩ = some (.slice a m cap) ∧ w'.cell? ⟨rb, 1, none⟩ = some (.int .i64 (at_ : Int)) ∧ w'.cell? ⟨rb, 2, none⟩ = some (.bool true)) (first | exact ⟨c0, c1, c2⟩ | go_keep) (fail)
      go_wp2_with fail
      go_returns
      rw [HE.out]
      exact ⟨none, 0, 0, rfl, Bo.nil _ _, HFI.out, HKF.out⟩
    · have HE : Hid (cutS xs at_ true n = ((xs.drop at_).take n, at_ + n, true)) := Lib.hid (by unfold cutS; rw [if_neg (by rw [← HN.out]; simp; omega)])
      have x1 : ¬ (m : Int) - (at_ : Int) < (n : Int) := by omega
      have hsl : at_ + n ≤ m := by omega
      have HSRC := Lib.hid (HB.out.mid at_ (at_ + n) (by omega) hsl)
      rw [show at_ + n - at_ = n by omega] at HSRC
      go_enter Try.func21, Try.ntmps21
      go_wp2_with fail
      go_region_held3 (fun w' => w'.cell? ⟨rb, 0, none⟩ = some (.slice a m cap) ∧ w'.cell? ⟨rb, 1, none⟩ = some (.int .i64 (at_ : Int)) ∧ w'.cell? ⟨rb, 2, none⟩ = some (.bool true)) (first | exact ⟨c0, c1, c2⟩ | go_keep) (fail)
      have ho := offA_eq a cap at_
      have hwn : IntKind.i64.wrap (n : Int) = (n : Int) := by rw [IntKind.wrap_i64]; omega
      have hwa : IntKind.i64.wrap ((at_ : Int) + (n : Int)) = (at_ : Int) + (n : Int) := by rw [IntKind.wrap_i64]; omega
      have x2 : (at_ : Int) ≤ (at_ : Int) + (n : Int) := by omega
      have x3 : (at_ : Int) + (n : Int) ≤ (cap : Int) := by omega
      have x4 : (0 : Int) ≤ (at_ : Int) + (n : Int) := by omega
      have x5 : ((at_ : Int) + (n : Int)).toNat = at_ + n := by omega
      clear hwu hwi x1
      go_wp2_with fail
      refine wp_region_held (S := fun w' => w'.cell? ⟨rb, 0, none⟩ = some (.slice a m cap) ∧ w'.cell? ⟨rb, 1, none⟩ = some (.int .i64 (at_ : Int)) ∧ w'.cell? ⟨rb, 2, none⟩ = some (.bool true)) (by kernel_rfl) ?_
      change wpAnyH _ _ _ _ _ _ _ _ (World.drew _)
      have hS : (fun w' : World => w'.cell? ⟨rb, 0, none⟩ = some (.slice a m cap) ∧ w'.cell? ⟨rb, 1, none⟩ = some (.int .i64 (at_ : Int)) ∧ w'.cell? ⟨rb, 2, none⟩ = some (.bool true)) w.drew.drew := ⟨c0, c1, c2⟩
      refine wpAnyH_take (i := 0) (v := ?_) rfl (by kernel_rfl) (by kernel_rfl) (by kernel_rfl) (fun _ _ _ h => h) (Or.inl ⟨by kernel_rfl, ?_⟩) hS ?_
      rotate_left
      · intro wz ⟨_, _, _⟩; go_simp; try with_reducible rfl
      refine wpAnyH_take (i := 1) (v := ?_) rfl (by kernel_rfl) (by kernel_rfl) (by kernel_rfl) (fun _ _ _ h => h) (Or.inl ⟨by kernel_rfl, ?_⟩) hS ?_
      rotate_left
      · intro wz ⟨_, _, _⟩; go_simp; try with_reducible rfl
      refine wpAnyH_take (i := 2) (v := ?_) rfl (by kernel_rfl) (by kernel_rfl) (by kernel_rfl) (fun _ _ _ h => h) (Or.inl ⟨by kernel_rfl, ?_⟩) hS ?_
      rotate_left
      · intro wz ⟨_, _, _⟩; go_simp; try with_reducible rfl
      refine wpAnyH_take (i := 3) (v := ?_) rfl (by kernel_rfl) (by kernel_rfl) (by kernel_rfl) (fun _ _ _ h => h) (Or.inl ⟨by kernel_rfl, ?_⟩) hS ?_
      rotate_left
      · intro wz ⟨_, _, _⟩; go_simp; try with_reducible rfl
      refine wpAnyH_take (i := 4) (v := ?_) rfl (by kernel_rfl) (by kernel_rfl) (by kernel_rfl) (fun _ _ _ h => h) (Or.inl ⟨by kernel_rfl, ?_⟩) hS ?_
      rotate_left
      · intro wz ⟨_, _, _⟩; go_simp; try with_reducible rfl
      refine wpAnyH_take (i := 5) (v := ?_) rfl (by kernel_rfl) (by kernel_rfl) (by kernel_rfl) (fun _ _ _ h => h) (Or.inl ⟨by kernel_rfl, ?_⟩) hS ?_
      rotate_left
      · intro wz ⟨_, _, _⟩; go_simp; try with_reducible rfl
      refine wpAnyH_take (i := 6) (v := ?_) rfl (by kernel_rfl) (by kernel_rfl) (by kernel_rfl) (fun _ _ _ h => h) (Or.inl ⟨by kernel_rfl, ?_⟩) hS ?_
      rotate_left
      · intro wz ⟨_, _, _⟩; go_simp; try with_reducible rfl
      refine wpAnyH_take (i := 7) (v := ?_) rfl (by kernel_rfl) (by kernel_rfl) (by kernel_rfl) (fun _ _ _ h => h) (Or.inl ⟨by kernel_rfl, ?_⟩) hS ?_
      rotate_left
      · intro wz ⟨_, _, _⟩; go_simp; try with_reducible rfl
      refine wpAnyH_take (i := 8) (v := ?_) rfl (by kernel_rfl) (by kernel_rfl) (by kernel_rfl) (fun _ _ _ h => h) (Or.inl ⟨by kernel_rfl, ?_⟩) hS ?_
      rotate_left
      · intro wz ⟨_, _, _⟩; go_simp; try with_reducible rfl
      refine wpAnyH_take (i := 9) (v := ?_) rfl (by kernel_rfl) (by kernel_rfl) (by kernel_rfl) (fun _ _ _ h => h) (Or.inl ⟨by kernel_rfl, ?_⟩) hS ?_
      rotate_left
      · intro wz ⟨_, _, _⟩; go_simp; try with_reducible rfl
      refine wpAnyH_take (i := 10) (v := ?_) rfl (by kernel_rfl) (by kernel_rfl) (by kernel_rfl) (fun _ _ _ h => h) (Or.inl ⟨by kernel_rfl, ?_⟩) hS ?_
      rotate_left
      · intro wz ⟨_, _, _⟩; go_simp; try with_reducible rfl
      refine wpAnyH_take (i := 11) (v := ?_) rfl (by kernel_rfl) (by kernel_rfl) (by kernel_rfl) (fun _ _ _ h => h) (Or.inl ⟨by kernel_rfl, ?_⟩) hS ?_
      rotate_left
      · intro wz ⟨_, _, _⟩; go_simp; try with_reducible rfl
      refine wpAnyH_take (i := 12) (v := ?_) rfl (by kernel_rfl) (by kernel_rfl) (by kernel_rfl) (fun _ _ _ h => h) (Or.inl ⟨by kernel_rfl, ?_⟩) hS ?_
      rotate_left
      · intro wz ⟨_, _, _⟩; go_simp; try with_reducible rfl
      refine wpAnyH_take (i := 13) (v := ?_) rfl (by kernel_rfl) (by kernel_rfl) (by kernel_rfl) (fun _ _ _ h => h) (Or.inl ⟨by kernel_rfl, ?_⟩) hS ?_
      rotate_left
      · intro wz ⟨_, _, _⟩; go_simp; try with_reducible rfl
      refine wpAnyH_take (i := 14) (v := ?_) rfl (by kernel_rfl) (by kernel_rfl) (by kernel_rfl) (fun _ _ _ h => h) (Or.inl ⟨by kernel_rfl, ?_⟩) hS ?_
      rotate_left
      · intro wz ⟨_, _, _⟩; go_simp; try with_reducible rfl
      refine wpAnyH_take (i := 15) (v := ?_) rfl (by kernel_rfl) (by kernel_rfl) (by kernel_rfl) (fun _ _ _ h => h) (Or.inl ⟨by kernel_rfl, ?_⟩) hS ?_
      rotate_left
      · intro wz ⟨_, _, _⟩; go_simp; try with_reducible rfl
      obtain ⟨i0, hi0, hz0, hz1, hz2⟩ := info_parts info8
      refine held_app (i := 16) rfl (by kernel_rfl) (by kernel_rfl) (.const (.slice none 0 0)) (.tmp 44) 25 25 rfl w.heap.size 5 i0 _ 1 1 Try.underlying25 hi0 hz0 hz1 hz2 rfl none 0 0 (Bs []) (by kernel_rfl) (Dst.nil _ _ _ _) (.slice (offA a cap at_) n (cap - at_)) (by kernel_rfl) n (Bs ((xs.drop at_).take n)) ((By.drew2 (By.drew2 HSRC.out)).2.src Try.underlying25 (Bs_one _)) (by unfold maxLen; omega) (by omega) (Nat.le_refl _) ?_
      intro a6 c6 w6 _ hk6 _ hown6 hnil6
      have hbo : Bo w.heap.size w6 a6 n c6 ((xs.drop at_).take n) := by
        have hlen : ((xs.drop at_).take n).length = n := HSRC.out.1.symm
        by_cases h0 : n = 0
        · obtain ⟨rfl, rfl, rfl⟩ := hnil6 h0
          subst h0
          simpa using Bo.nil _ _
        · refine ⟨hlen.symm, ?_⟩
          have h := hown6 (by omega)
          rwa [Nat.zero_add] at h
      have HO6 := Lib.hid hbo
      have hk6' : Keeps (fun k => k = rb) w.drew.drew w6 := hk6.mono (fun k _ h => by cases h.2)
      have HK6 : Hid (Keeps (fun k => k = rb) w w6) := Lib.hid (((Keeps.refl (fun k => k = rb) w).drew.drew).trans hk6')
      have HR6 : Hid (Rr w6 rb a m cap at_ true) := Lib.hid (hk6.blk (show Blk w.drew.drew rb _ _ from Blk.drew (Blk.drew HR.out)) (fun h => by cases h.2))
      clear hk6 hk6' hown6 hnil6 hbo hi0 hz0 hz1 hz2 hS c0 c1 c2 y1 y2
      obtain ⟨⟨c0, c1, c2⟩, y1, y2⟩ := HR6.out.cells
      have hS : (fun w' : World => w'.cell? ⟨rb, 0, none⟩ = some (.slice a m cap) ∧ w'.cell? ⟨rb, 1, none⟩ = some (.int .i64 (at_ : Int)) ∧ w'.cell? ⟨rb, 2, none⟩ = some (.bool true)) w6 := ⟨c0, c1, c2⟩
      refine ⟨hS, ?_⟩
      refine wpAnyH_take (i := 17) (v := ?_) rfl (by kernel_rfl) (by kernel_rfl) (by kernel_rfl) (fun _ _ _ h => h) (Or.inl ⟨by kernel_rfl, ?_⟩) hS ?_
      rotate_left
      · intro wz ⟨_, _, _⟩; go_simp; try with_reducible rfl
      refine wpAnyH_done (by kernel_rfl) ?_ _
      clear hS
      have HFI2 : Hid (Rr (w6.setCell ⟨rb, 1, none⟩ (.int .i64 ((at_ : Int) + (n : Int)))) rb a m cap (at_ + n) true) := Lib.hid (by
        have h := Blk.set HR6.out 1 (.int .i64 ((at_ : Int) + (n : Int)))
        unfold Rr
        rw [show ((at_ + n : Nat) : Int) = (at_ : Int) + (n : Int) by omega]
        exact h)
      have hkp := (Keeps.refl (fun k => k = rb) w6).put 1 (.int .i64 ((at_ : Int) + (n : Int)))
      have HKF2 := Lib.hid (HK6.out.trans hkp)
      have HOF := Lib.hid (HO6.out.keep hkp (fun b hb h => by have := (HO6.out.ge b hb).1; omega))
      clear hkp
      go_wp2_with fail
      go_returns
      rw [HE.out]
      exact ⟨a6, n, c6, rfl, HOF.out, HFI2.out, HKF2.out⟩

end Go.Proofs.Ytabdoikfcaiobaa
