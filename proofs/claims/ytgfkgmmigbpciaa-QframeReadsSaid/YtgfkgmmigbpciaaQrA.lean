import Derived.Test.YtgfkgmmigbpciaaQfA
import Derived.Deep.RegionHeld3
import Derived.Test.YtgfkgmmigbpciaaQfJ
/- QUIC's frames as they are read: the plain parser. -/
namespace Go.Proofs.Ytgfkgmmigbpciaa
set_option linter.unusedSimpArgs false
set_option linter.unusedVariables false
open Go.RowKit Go.Deep

/-- A number at the front of bytes, and what stands behind it. -/
def pn (ys : List UInt8) : Option (Int × List UInt8) := if rvE ys = 0 then some (rvV ys, ys.drop (rvL ys).toNat) else none
/-- So many bytes, and what stands behind them. -/
def ptk (n : Nat) (ys : List UInt8) : Option (List UInt8 × List UInt8) := if n ≤ ys.length then some (ys.take n, ys.drop n) else none
def pb {α β : Type} (r : Option (α × List UInt8)) (f : α → List UInt8 → Option β) : Option β := match r with
 | some x => f x.1 x.2
 | none => none
/-- A length, then so many bytes. -/
def ptx (ys : List UInt8) : Option (List UInt8 × List UInt8) := pb (pn ys) fun n y => ptk n.toNat y
theorem pb_some {α β : Type} {r : Option (α × List UInt8)} {v : α} {y : List UInt8} (f : α → List UInt8 → Option β) (h : r = some (v, y)) : pb r f = f v y := by rw [h]; rfl
theorem pb_none {α β : Type} {r : Option (α × List UInt8)} (f : α → List UInt8 → Option β) (h : r = none) : pb r f = none := by rw [h]; rfl
theorem pn_bad {ys : List UInt8} (h : rvE ys = 20) : pn ys = none := by unfold pn; rw [h, if_neg (by decide)]
theorem pn_good {ys : List UInt8} {k : Nat} (h : rvE ys = 0) (hk : rvL ys = k) : pn ys = some (rvV ys, ys.drop k) := by unfold pn; rw [h, hk, if_pos rfl, Int.toNat_natCast]
theorem pn_bd {ys y : List UInt8} {v : Int} (h : pn ys = some (v, y)) : 0 ≤ v ∧ v ≤ 4611686018427387903 ∧ y.length < ys.length ∧ ∃ k : Nat, rvL ys = k ∧ k ≤ ys.length ∧ y = ys.drop k ∧ 1 ≤ k ∧ k ≤ 8 := by
 rcases rv_facts ys with ⟨f1, _, _⟩ | ⟨k, k1, k8, kl, g2, g1, g3, g4⟩
 ·rw [pn_bad f1] at h; cases h
 ·rw [pn_good g1 g2] at h
  cases h
  exact ⟨g3, g4, by rw [List.length_drop]; omega, k, g2, kl, rfl, k1, k8⟩
theorem ptk_yes {n : Nat} {ys : List UInt8} (h : n ≤ ys.length) : ptk n ys = some (ys.take n, ys.drop n) := by unfold ptk; rw [if_pos h]
theorem ptk_no {n : Nat} {ys : List UInt8} (h : ¬ n ≤ ys.length) : ptk n ys = none := by unfold ptk; rw [if_neg h]
theorem ptk_bd {n : Nat} {ys y bs : List UInt8} (h : ptk n ys = some (bs, y)) : bs.length = n ∧ n ≤ ys.length ∧ y.length = ys.length - n := by
 by_cases hn : n ≤ ys.length
 ·rw [ptk_yes hn] at h
  cases h
  exact ⟨by rw [List.length_take]; omega, hn, by rw [List.length_drop]⟩
 ·rw [ptk_no hn] at h; cases h

/-- A frame that says nothing. -/
def q0 : Qc := ⟨0, 0, 0, false, 0, 0, 0, [], [], false, false, 0⟩
def zeros : List UInt8 → Nat
 | [] => 0
 | c :: l => if c = 0 then zeros l + 1 else 0
/-- Ranges below one that has been read. -/
def prs : Nat → Int → List UInt8 → Option (List (Int × Int) × List UInt8)
 | 0, _, ys => some ([], ys)
 | n + 1, f, ys => pb (pn ys) fun g y1 => if f < g + 2 then none else pb (pn y1) fun d y2 => if f - g - 2 < d then none else
   pb (prs n (f - g - 2 - d) y2) fun l y3 => some ((f - g - 2 - d, f - g - 2) :: l, y3)
def ackD (ys : List UInt8) : Option (Qc × List UInt8) :=
 pb (pn ys) fun last y1 => pb (pn y1) fun delay y2 => pb (pn y2) fun n y3 => if 32 ≤ n then none else pb (pn y3) fun d y4 => if last < d then none else
  pb (prs n.toNat (last - d) y4) fun l y5 => some (⟨2, 0, 0, false, 0, 0, delay, (last - d, last) :: l, [], false, false, 0⟩, y5)
def strD (fin hasOff hasLen : Bool) (ys : List UInt8) : Option (Qc × List UInt8) :=
 pb (pn ys) fun id y1 => pb (if hasOff then pn y1 else some (0, y1)) fun off y2 => pb (if hasLen then ptx y2 else some (y2, [])) fun bs y3 =>
  if endB off bs.length then some (⟨8, id, off, fin, 0, 0, 0, [], bs, false, false, 0⟩, y3) else none
def padD (ys : List UInt8) : Option (Qc × List UInt8) := some (⟨0, 0, 0, false, 0, 0, 0, [], [], false, false, (zeros ys : Int) + 1⟩, ys.drop (zeros ys))
def oneD (t : Int) (ys : List UInt8) : Option (Qc × List UInt8) := some (⟨t, 0, 0, false, 0, 0, 0, [], [], false, false, 0⟩, ys)
def resD (ys : List UInt8) : Option (Qc × List UInt8) := pb (pn ys) fun id y1 => pb (pn y1) fun code y2 => pb (pn y2) fun mx y3 => some (⟨4, id, 0, false, mx, code, 0, [], [], false, false, 0⟩, y3)
def stoD (ys : List UInt8) : Option (Qc × List UInt8) := pb (pn ys) fun id y1 => pb (pn y1) fun code y2 => some (⟨5, id, 0, false, 0, code, 0, [], [], false, false, 0⟩, y2)
def cryD (ys : List UInt8) : Option (Qc × List UInt8) := pb (pn ys) fun off y1 => pb (ptx y1) fun bs y2 => if endB off bs.length then some (⟨6, 0, off, false, 0, 0, 0, [], bs, false, false, 0⟩, y2) else none
def tokD (ys : List UInt8) : Option (Qc × List UInt8) := pb (ptx ys) fun bs y2 => if 0 < bs.length then some (⟨7, 0, 0, false, 0, 0, 0, [], bs, false, false, 0⟩, y2) else none
def maxD (t : Int) (ys : List UInt8) : Option (Qc × List UInt8) := pb (pn ys) fun mx y1 => some (⟨t, 0, 0, false, mx, 0, 0, [], [], false, false, 0⟩, y1)
def msdD (t : Int) (ys : List UInt8) : Option (Qc × List UInt8) := pb (pn ys) fun id y1 => pb (pn y1) fun mx y2 => some (⟨t, id, 0, false, mx, 0, 0, [], [], false, false, 0⟩, y2)
def strsD (t : Int) (uni : Bool) (ys : List UInt8) : Option (Qc × List UInt8) := pb (pn ys) fun mx y1 => if mx ≤ 1152921504606846976 then some (⟨t, 0, 0, false, mx, 0, 0, [], [], uni, false, 0⟩, y1) else none
def nidOK (id mx : Int) (n : Nat) : Bool := decide (mx ≤ id) && decide (1 ≤ n) && decide (n ≤ 20)
def nidD (ys : List UInt8) : Option (Qc × List UInt8) := pb (pn ys) fun id y1 => pb (pn y1) fun mx y2 => pb (ptk 1 y2) fun ns y3 =>
 if nidOK id mx (ns.headD 0).toNat then pb (ptk ((ns.headD 0).toNat + 16) y3) fun bs y4 => some (⟨24, id, 0, false, mx, 0, 0, [], bs, false, false, 0⟩, y4) else none
def retD (ys : List UInt8) : Option (Qc × List UInt8) := pb (pn ys) fun id y1 => some (⟨25, id, 0, false, 0, 0, 0, [], [], false, false, 0⟩, y1)
def chaD (t : Int) (ys : List UInt8) : Option (Qc × List UInt8) := pb (ptk 8 ys) fun bs y1 => some (⟨t, 0, 0, false, 0, 0, 0, [], bs, false, false, 0⟩, y1)
def cloD (app : Bool) (ys : List UInt8) : Option (Qc × List UInt8) := pb (pn ys) fun code y1 => pb (if app then some (0, y1) else pn y1) fun off y2 => pb (ptx y2) fun bs y3 => some (⟨28, 0, off, false, 0, code, 0, [], bs, false, app, 0⟩, y3)

/-- The types behind STREAM. -/
def othD (t : Int) (ys : List UInt8) : Option (Qc × List UInt8) :=
 if t = 16 then maxD 16 ys else if t = 20 then maxD 20 ys
 else if t = 17 then msdD 17 ys else if t = 21 then msdD 21 ys
 else if t = 18 then strsD 18 false ys else if t = 19 then strsD 18 true ys else if t = 22 then strsD 22 false ys else if t = 23 then strsD 22 true ys
 else if t = 24 then nidD ys else if t = 25 then retD ys else if t = 26 then chaD 26 ys else if t = 27 then chaD 27 ys
 else if t = 28 then cloD false ys else if t = 29 then cloD true ys else none
/-- A frame behind its type. -/
def decT (t : Int) (ys : List UInt8) : Option (Qc × List UInt8) :=
 if t = 0 then padD ys else if t = 1 then oneD 1 ys else if t = 30 then oneD 30 ys
 else if t = 2 then ackD ys else if t = 4 then resD ys else if t = 5 then stoD ys else if t = 6 then cryD ys else if t = 7 then tokD ys
 else if t = 8 then strD false false false ys else if t = 9 then strD true false false ys else if t = 10 then strD false false true ys else if t = 11 then strD true false true ys
 else if t = 12 then strD false true false ys else if t = 13 then strD true true false ys else if t = 14 then strD false true true ys else if t = 15 then strD true true true ys
 else othD t ys
/-- A frame, and what stands behind it. -/
def decQ (ys : List UInt8) : Option (Qc × List UInt8) := pb (pn ys) fun t y => if rvL ys = varLenV t then decT t y else none
/-- All frames. -/
def decsQ : Nat → List UInt8 → Option (List Qc)
 | 0, _ => none
 | n + 1, ys => if ys = [] then some [] else match decQ ys with
  | some (c, y) => match decsQ n y with
   | some l => some (c :: l)
   | none => none
  | none => none

end Go.Proofs.Ytgfkgmmigbpciaa

/- The reader of the package qframe: num, less, take, text. -/
namespace Go.Proofs.Ytgfkgmmigbpciaa
set_option linter.unusedSimpArgs false
set_option linter.unusedVariables false
open Go.RowKit Go.Deep

theorem By.drewR {w : World} {a : Option Addr} {n cap : Nat} {xs : List UInt8} (h : By w a n cap xs) : By w.drew a n cap xs := h.keep ((Keeps.refl (fun _ => False) w).drew) (fun _ _ h => h)
theorem offA_blockR {a : Option Addr} {cap lo b : Nat} (h : (offA a cap lo).map (·.block) = some b) : a.map (·.block) = some b := by
 unfold offA at h
 split at h
 ·exact h
 ·cases a with
  | none => exact h
  | some x =>
   simp only [Option.map_some, Option.some.injEq] at h ⊢
   rw [← h]
   unfold Addr.add
   split <;> rfl

/-- A reader in memory: what is left to read. -/
structure Re (w : World) (rb : Nat) (a : Option Addr) (m cap : Nat) (xs : List UInt8) (p : Nat) (ys : List UInt8) : Prop where
 by_ : By w a m cap xs
 k : Blk w rb #[.slice a m cap, .int .i64 (p : Int)] 68
 le : p ≤ m
 d : xs.drop p = ys
 ne : ∀ b, a.map (·.block) = some b → b ≠ rb
 small : m ≤ 1000000
theorem Re.len {w : World} {rb : Nat} {a : Option Addr} {m cap : Nat} {xs : List UInt8} {p : Nat} {ys : List UInt8} (h : Re w rb a m cap xs p ys) : ys.length = m - p := by rw [← h.d, List.length_drop, ← h.by_.1]
theorem Re.keep {w w' : World} {rb : Nat} {a : Option Addr} {m cap : Nat} {xs : List UInt8} {p : Nat} {ys : List UInt8} {S : Nat → Prop} (h : Re w rb a m cap xs p ys) (k : Keeps S w w') (h1 : ¬ S rb) (h2 : ∀ b, a.map (·.block) = some b → ¬ S b) : Re w' rb a m cap xs p ys :=
 ⟨h.by_.keep k h2, k.blk h.k h1, h.le, h.d, h.ne, h.small⟩
theorem Re.same {w w' : World} {rb : Nat} {a : Option Addr} {m cap : Nat} {xs : List UInt8} {p : Nat} {ys : List UInt8} (h : Re w rb a m cap xs p ys) (k : Keeps (fun _ => False) w w') : Re w' rb a m cap xs p ys := h.keep k (fun h => h) (fun _ _ h => h)
theorem Re.on {w : World} {rb : Nat} {a : Option Addr} {m cap : Nat} {xs : List UInt8} {p : Nat} {ys : List UInt8} (h : Re w rb a m cap xs p ys) {k : Nat} (hk : p + k ≤ m) {w' : World} (hb : Keeps (fun k => k = rb) w w') (hw : Blk w' rb #[.slice a m cap, .int .i64 ((p : Int) + (k : Int))] 68) : Re w' rb a m cap xs (p + k) (ys.drop k) :=
 ⟨h.by_.keep hb (fun b hb => h.ne b hb), by rw [show ((p + k : Nat) : Int) = (p : Int) + (k : Int) by omega]; exact hw, hk, by rw [← List.drop_drop, h.d], h.ne, h.small⟩
/-- What a function of the reader has done: it answers, or it panicked. -/
def ReP {α : Type} (rb : Nat) (a : Option Addr) (m cap : Nat) (xs : List UInt8) (V : α → Value → World → Prop) (r : Option (α × List UInt8)) (w : World) (e : Ending) (w' : World) : Prop :=
 Keeps (fun k => k = rb) w w' ∧ match r with
  | some x => ∃ p val, e = .returned val ∧ V x.1 val w' ∧ Re w' rb a m cap xs p x.2
  | none => e = .panicked [{ v := stopV, recovered := false }]
def vNum (v : Int) (val : Value) (_ : World) : Prop := val = .int .u64 v
def vBytes (base : Nat) (bs : List UInt8) (val : Value) (w : World) : Prop := ∃ a n c, val = .slice a n c ∧ Bo base w a n c bs

set_option maxHeartbeats 1600000 in
theorem num_any (rb : Nat) (a : Option Addr) (m cap : Nat) (xs : List UInt8) (p : Nat) (ys : List UInt8) (w : World) (hr : Re w rb a m cap xs p ys) :
  Calls Try.prog 47 #[.pointer (some ⟨rb, 0, none⟩)] w (ReP rb a m cap xs vNum (pn ys) w) := by
 have hl := hr.small
 have hat := hr.le
 have hcap := hr.by_.2.le
 have hmax := hr.by_.2.max
 unfold maxLen at hmax
 have HF := Lib.hid (hr.by_.from p hat)
 rw [hr.d] at HF
 have hlen := hr.len
 have HR := Lib.hid hr
 have c0 : w.cell? ⟨rb, 0, none⟩ = some (.slice a m cap) := hr.k.cell 0
 have c1 : w.cell? ⟨rb, 1, none⟩ = some (.int .i64 (p : Int)) := hr.k.cell 1
 have y1 : w.frozen? ⟨rb, 1, none⟩ = false := hr.k.free 1
 have y1d : w.drew.frozen? ⟨rb, 1, none⟩ = false := y1
 have c1d : w.drew.cell? ⟨rb, 1, none⟩ = some (.int .i64 (p : Int)) := c1
 clear hr
 have ho := offA_eq a cap p
 have z1 : (0 : Int) ≤ (p : Int) := by omega
 have z2 : (p : Int) ≤ (m : Int) := by omega
 have z3 : (m : Int) ≤ (cap : Int) := by omega
 go_enter Try.func47, Try.ntmps47
 go_wp2_with fail
 go_region_held3 (fun w' => w'.cell? ⟨rb, 0, none⟩ = some (.slice a m cap) ∧ w'.cell? ⟨rb, 1, none⟩ = some (.int .i64 (p : Int))) (first | exact ⟨c0, c1⟩ | go_keep)
  ((go_at_call 58; refine (readvar_any (offA a cap p) (m - p) (cap - p) ys _ (By.drewR HF.out)).mono ?_; rintro e w' ⟨rfl, rfl⟩))
 clear ho
 have HKD : Hid (Keeps (fun k => k = rb) w w.drew) := Lib.hid ((Keeps.refl _ _).drew)
 rcases rv_facts ys with ⟨f1, f2, f3⟩ | ⟨j, j1, j8, jl, f2, f1, f3, f4⟩
 ·have HE := Lib.hid (pn_bad f1)
  rw [f1, f2, f3]
  clear f1 f2 f3
  go_wp2_with fail
  refine (must_no _).mono ?_
  rintro e w' ⟨rfl, rfl⟩
  go_wp2_with fail
  refine ⟨rfl, HKD.out, ?_⟩
  rw [HE.out]
 ·have HE := Lib.hid (pn_good f1 f2)
  have HPJ : Hid (p + j ≤ m) := Lib.hid (by omega)
  have HV : Hid (vNum (rvV ys) (.int .u64 (rvV ys)) w) := Lib.hid rfl
  rw [f1, f2]
  clear f1 f2
  have HFI : Hid (Blk (w.drew.setCell ⟨rb, 1, none⟩ (.int .i64 ((p : Int) + (j : Int)))) rb #[.slice a m cap, .int .i64 ((p : Int) + (j : Int))] 68) := Lib.hid ((HR.out.k.drew.set 1 (.int .i64 ((p : Int) + (j : Int)))).as rfl)
  have HKF : Hid (Keeps (fun k => k = rb) w (w.drew.setCell ⟨rb, 1, none⟩ (.int .i64 ((p : Int) + (j : Int))))) := Lib.hid (((Keeps.refl _ _).drew).put 1 _)
  generalize rvV ys = v at *
  go_wp2_with fail
  refine (must_ok _).mono ?_
  rintro e w' ⟨rfl, rfl⟩
  go_wp2_with fail
  go_returns
  refine ⟨HKF.out, ?_⟩
  rw [HE.out]
  exact ⟨p + j, _, rfl, rfl, HR.out.on HPJ.out HKF.out HFI.out⟩

theorem less_ok (u v : Int) (w : World) (h0 : 0 ≤ v) (h2 : u ≤ 18446744073709551615) (h : v ≤ u) : Calls Try.prog 59 #[.int .u64 u, .int .u64 v] w fun e w' => e = .returned (.int .u64 (u - v)) ∧ w = w' := by
 have e1 : (decide (v ≤ u)) = true := decide_eq_true h
 go_enter Try.func59, Try.ntmps59
 go_wp2_with fail
 refine (must_ok _).mono ?_
 rintro e w' ⟨rfl, rfl⟩
 go_wp2_with fail
 go_returns
 exact ⟨rfl, rfl⟩
theorem less_no (u v : Int) (w : World) (h : u < v) : Calls Try.prog 59 #[.int .u64 u, .int .u64 v] w fun e w' => e = .panicked [{ v := stopV, recovered := false }] ∧ w = w' := by
 have h' : ¬ v ≤ u := by omega
 have e1 : (decide (v ≤ u)) = false := decide_eq_false h'
 go_enter Try.func59, Try.ntmps59
 go_wp2_with fail
 refine (must_no _).mono ?_
 rintro e w' ⟨rfl, rfl⟩
 go_wp2_with fail
 exact ⟨rfl, rfl, rfl⟩

set_option maxRecDepth 100000 in
set_option maxHeartbeats 1600000 in
theorem take_no (rb : Nat) (a : Option Addr) (m cap : Nat) (xs : List UInt8) (p k : Nat) (ys : List UInt8) (w : World) (hr : Re w rb a m cap xs p ys) (hk : k ≤ 4611686018427387903) (hno : ¬ k ≤ m - p) :
  Calls Try.prog 60 #[.pointer (some ⟨rb, 0, none⟩), .int .u64 (k : Int)] w (ReP rb a m cap xs (vBytes w.heap.size) (ptk k ys) w) := by
 have hl := hr.small
 have hat := hr.le
 have HE := Lib.hid (ptk_no (n := k) (ys := ys) (by rw [hr.len]; exact hno))
 have c0 : w.cell? ⟨rb, 0, none⟩ = some (.slice a m cap) := hr.k.cell 0
 have c1 : w.cell? ⟨rb, 1, none⟩ = some (.int .i64 (p : Int)) := hr.k.cell 1
 have HKD : Hid (Keeps (fun k => k = rb) w w.drew) := Lib.hid ((Keeps.refl _ _).drew)
 have hwi : IntKind.i64.wrap ((m : Int) - (p : Int)) = (m : Int) - (p : Int) := by rw [IntKind.wrap_i64]; omega
 have hwu : IntKind.u64.wrap ((m : Int) - (p : Int)) = (m : Int) - (p : Int) := by rw [IntKind.wrap_u64]; omega
 have hd : decide ((k : Int) ≤ (m : Int) - (p : Int)) = false := decide_eq_false (by omega)
 clear hr
 go_enter Try.func60, Try.ntmps60
 go_wp2_with fail
 refine wp_region_held (S := fun w' => w'.cell? ⟨rb, 0, none⟩ = some (.slice a m cap) ∧ w'.cell? ⟨rb, 1, none⟩ = some (.int .i64 (p : Int))) (by kernel_rfl) ?_
 change wpAnyH _ _ _ _ _ _ _ _ (World.drew _)
 have hS : (fun w' : World => w'.cell? ⟨rb, 0, none⟩ = some (.slice a m cap) ∧ w'.cell? ⟨rb, 1, none⟩ = some (.int .i64 (p : Int))) w.drew := ⟨c0, c1⟩
 refine tH (i := 0) (v := ?_) rfl ?_ hS ?_
 rotate_left
 ·intro wz ⟨_, _⟩; go_simp; try with_reducible rfl
 refine tH (i := 1) (v := ?_) rfl ?_ hS ?_
 rotate_left
 ·intro wz ⟨_, _⟩; go_simp; try with_reducible rfl
 refine tH (i := 2) (v := ?_) rfl ?_ hS ?_
 rotate_left
 ·intro wz ⟨_, _⟩; go_simp; try with_reducible rfl
 refine tH (i := 3) (v := ?_) rfl ?_ hS ?_
 rotate_left
 ·intro wz ⟨_, _⟩; go_simp; try with_reducible rfl
 refine tH (i := 4) (v := ?_) rfl ?_ hS ?_
 rotate_left
 ·intro wz ⟨_, _⟩; go_simp; try with_reducible rfl
 refine tH (i := 5) (v := ?_) rfl ?_ hS ?_
 rotate_left
 ·intro wz ⟨_, _⟩; go_simp; try with_reducible rfl
 refine tH (i := 6) (v := ?_) rfl ?_ hS ?_
 rotate_left
 ·intro wz ⟨_, _⟩; go_simp; try with_reducible rfl
 refine tH (i := 7) (v := ?_) rfl ?_ hS ?_
 rotate_left
 ·intro wz ⟨_, _⟩; go_simp; try with_reducible rfl
 refine tH (i := 8) (v := ?_) rfl ?_ hS ?_
 rotate_left
 ·intro wz ⟨_, _⟩; go_simp; try with_reducible rfl
 refine tH (i := 9) (v := ?_) rfl ?_ hS ?_
 rotate_left
 ·intro wz ⟨_, _⟩; go_simp; try with_reducible rfl
 refine tH (i := 10) (v := ?_) rfl ?_ hS ?_
 rotate_left
 ·intro wz ⟨_, _⟩; go_simp; try with_reducible rfl
 refine tH (i := 11) (v := ?_) rfl ?_ hS ?_
 rotate_left
 ·intro wz ⟨_, _⟩; go_simp; try with_reducible rfl
 refine tH (i := 12) (v := ?_) rfl ?_ hS ?_
 rotate_left
 ·intro wz ⟨_, _⟩; go_simp; try with_reducible rfl
 refine held_callP (i := 13) 27 #[.bool false] rfl (by kernel_rfl) (by kernel_rfl) (by kernel_rfl) ?_
 refine (must_no _).mono ?_
 rintro e w' ⟨rfl, rfl⟩
 refine Or.inr ⟨_, rfl, ?_⟩
 clear hS
 go_wp2_with fail
 refine ⟨rfl, HKD.out, ?_⟩
 rw [HE.out]

set_option maxRecDepth 100000 in
set_option maxHeartbeats 1600000 in
theorem take_yes (rb : Nat) (a : Option Addr) (m cap : Nat) (xs : List UInt8) (p k : Nat) (ys : List UInt8) (w : World) (hr : Re w rb a m cap xs p ys) (hle : k ≤ m - p) :
  Calls Try.prog 60 #[.pointer (some ⟨rb, 0, none⟩), .int .u64 (k : Int)] w (ReP rb a m cap xs (vBytes w.heap.size) (ptk k ys) w) := by
 have hl := hr.small
 have hcap := hr.by_.2.le
 have hmax := hr.by_.2.max
 unfold maxLen at hmax
 have hat0 := hr.le
 have hat : p + k ≤ m := by omega
 have HE := Lib.hid (ptk_yes (n := k) (ys := ys) (by rw [hr.len]; exact hle))
 have HRD := Lib.hid hr
 have c0 : w.cell? ⟨rb, 0, none⟩ = some (.slice a m cap) := hr.k.cell 0
 have c1 : w.cell? ⟨rb, 1, none⟩ = some (.int .i64 (p : Int)) := hr.k.cell 1
 have y1 : w.frozen? ⟨rb, 1, none⟩ = false := hr.k.free 1
 have y1d : w.drew.frozen? ⟨rb, 1, none⟩ = false := y1
 have c1d : w.drew.cell? ⟨rb, 1, none⟩ = some (.int .i64 (p : Int)) := c1
 have z1 : (0 : Int) ≤ (p : Int) := by omega
 have z2 : (p : Int) + (k : Int) ≤ (m : Int) := by omega
 have z3 : (m : Int) ≤ (cap : Int) := by omega
 have z4 : (k : Int) ≤ (m : Int) - (p : Int) := by omega
 have hwi : IntKind.i64.wrap ((m : Int) - (p : Int)) = (m : Int) - (p : Int) := by rw [IntKind.wrap_i64]; omega
 have hwu : IntKind.u64.wrap ((m : Int) - (p : Int)) = (m : Int) - (p : Int) := by rw [IntKind.wrap_u64]; omega
 have hwk : IntKind.i64.wrap (k : Int) = (k : Int) := by rw [IntKind.wrap_i64]; omega
 have hd : decide ((k : Int) ≤ (m : Int) - (p : Int)) = true := decide_eq_true z4
 have HSRC := Lib.hid (hr.by_.mid p (p + k) (by omega) hat)
 rw [show p + k - p = k by omega, hr.d] at HSRC
 clear hr
 go_enter Try.func60, Try.ntmps60
 go_wp2_with fail
 go_region_held3 (fun w' => w'.cell? ⟨rb, 0, none⟩ = some (.slice a m cap) ∧ w'.cell? ⟨rb, 1, none⟩ = some (.int .i64 (p : Int))) (first | exact ⟨c0, c1⟩ | go_keep) ((go_at_call 27; refine (must_ok _).mono ?_; rintro e w' ⟨rfl, rfl⟩; dsimp only))
 rename_i hheld
 clear hheld
 go_upto_region 3 with fail
 refine wp_named ?_
 intro w2 hw2
 have HR2 : Hid (Blk w2 rb #[.slice a m cap, .int .i64 ((p : Int) + (k : Int))] 68) := Lib.hid (by
  rw [← hw2]
  first
  | exact (HRD.out.k.drew.set 1 (.int .i64 ((p : Int) + (k : Int)))).as rfl
  | exact (Blk.drew (HRD.out.k.set 1 (.int .i64 ((p : Int) + (k : Int))))).as rfl)
 have HKP : Hid (Keeps (fun k => k = rb) w w2) := Lib.hid (by
  rw [← hw2]
  first
  | exact ((Keeps.refl (fun k => k = rb) w).drew).put 1 (.int .i64 ((p : Int) + (k : Int)))
  | exact ((Keeps.refl (fun k => k = rb) w).put 1 (.int .i64 ((p : Int) + (k : Int)))).drew)
 have hs2 : w.heap.size ≤ w2.heap.size := HKP.out.size
 have HSR2 := Lib.hid (HSRC.out.keep HKP.out (fun b hb => HRD.out.ne b (offA_blockR hb)))
 clear hw2 c0 c1 y1 y1d c1d hwi hd hwu
 have ho := offA_eq a cap p
 have hwb : IntKind.i64.wrap (p : Int) = (p : Int) := by rw [IntKind.wrap_i64]; omega
 have hwa : IntKind.i64.wrap ((p : Int) + (k : Int) - (k : Int)) = (p : Int) := by rw [IntKind.wrap_i64]; omega
 have x2 : (p : Int) ≤ (p : Int) + (k : Int) := by omega
 have x3 : (p : Int) + (k : Int) ≤ (cap : Int) := by omega
 have x4 : (0 : Int) ≤ (p : Int) + (k : Int) := by omega
 have x5 : ((p : Int) + (k : Int)).toNat = p + k := by omega
 have x6 : p + k - p = k := by omega
 have x7 : (p : Int) ≤ (cap : Int) := by omega
 have c0 : w2.cell? ⟨rb, 0, none⟩ = some (.slice a m cap) := HR2.out.cell 0
 have c1 : w2.cell? ⟨rb, 1, none⟩ = some (.int .i64 ((p : Int) + (k : Int))) := HR2.out.cell 1
 refine wp_region_held (S := fun w' => w'.cell? ⟨rb, 0, none⟩ = some (.slice a m cap) ∧ w'.cell? ⟨rb, 1, none⟩ = some (.int .i64 ((p : Int) + (k : Int)))) (by kernel_rfl) ?_
 change wpAnyH _ _ _ _ _ _ _ _ (World.drew _)
 have hS : (fun w' : World => w'.cell? ⟨rb, 0, none⟩ = some (.slice a m cap) ∧ w'.cell? ⟨rb, 1, none⟩ = some (.int .i64 ((p : Int) + (k : Int)))) w2.drew := ⟨c0, c1⟩
 refine tH (i := 0) (v := ?_) rfl ?_ hS ?_
 rotate_left
 ·intro wz ⟨_, _⟩; go_simp; try with_reducible rfl
 refine tH (i := 1) (v := ?_) rfl ?_ hS ?_
 rotate_left
 ·intro wz ⟨_, _⟩; go_simp; try with_reducible rfl
 refine tH (i := 2) (v := ?_) rfl ?_ hS ?_
 rotate_left
 ·intro wz ⟨_, _⟩; go_simp; try with_reducible rfl
 refine tH (i := 3) (v := ?_) rfl ?_ hS ?_
 rotate_left
 ·intro wz ⟨_, _⟩; go_simp; try with_reducible rfl
 refine tH (i := 4) (v := ?_) rfl ?_ hS ?_
 rotate_left
 ·intro wz ⟨_, _⟩; go_simp; try with_reducible rfl
 refine tH (i := 5) (v := ?_) rfl ?_ hS ?_
 rotate_left
 ·intro wz ⟨_, _⟩; go_simp; try with_reducible rfl
 refine tH (i := 6) (v := ?_) rfl ?_ hS ?_
 rotate_left
 ·intro wz ⟨_, _⟩; go_simp; try with_reducible rfl
 refine tH (i := 7) (v := ?_) rfl ?_ hS ?_
 rotate_left
 ·intro wz ⟨_, _⟩; go_simp; try with_reducible rfl
 refine tH (i := 8) (v := ?_) rfl ?_ hS ?_
 rotate_left
 ·intro wz ⟨_, _⟩; go_simp; try with_reducible rfl
 refine tH (i := 9) (v := ?_) rfl ?_ hS ?_
 rotate_left
 ·intro wz ⟨_, _⟩; go_simp; try with_reducible rfl
 refine tH (i := 10) (v := ?_) rfl ?_ hS ?_
 rotate_left
 ·intro wz ⟨_, _⟩; go_simp; try with_reducible rfl
 refine tH (i := 11) (v := ?_) rfl ?_ hS ?_
 rotate_left
 ·intro wz ⟨_, _⟩; go_simp; try with_reducible rfl
 refine tH (i := 12) (v := ?_) rfl ?_ hS ?_
 rotate_left
 ·intro wz ⟨_, _⟩; go_simp; try with_reducible rfl
 refine tH (i := 13) (v := ?_) rfl ?_ hS ?_
 rotate_left
 ·intro wz ⟨_, _⟩; go_simp; try with_reducible rfl
 refine tH (i := 14) (v := ?_) rfl ?_ hS ?_
 rotate_left
 ·intro wz ⟨_, _⟩; go_simp; try with_reducible rfl
 refine tH (i := 15) (v := ?_) rfl ?_ hS ?_
 rotate_left
 ·intro wz ⟨_, _⟩; go_simp; try with_reducible rfl
 obtain ⟨i0, hi0, hz0, hz1, hz2⟩ := info_parts info8
 refine held_app (i := 16) rfl (by kernel_rfl) (by kernel_rfl) (.const (.slice none 0 0)) (.tmp 43) 22 22 rfl w2.heap.size 5 i0 _ 1 1 Try.underlying22 hi0 hz0 hz1 hz2 rfl none 0 0 (Bs []) (by kernel_rfl) (Dst.nil _ _ _ _) (.slice (offA a cap p) k (cap - p)) (by kernel_rfl) k (Bs (ys.take k)) ((By.drewR HSR2.out).2.src Try.underlying22 (Bs_one _)) (by unfold maxLen; omega) (by omega) (Nat.le_refl _) ?_
 intro a6 c6 w6 _ hk6 _ hown6 hnil6
 have hbo : Bo w.heap.size w6 a6 k c6 (ys.take k) := by
  have hlen : (ys.take k).length = k := HSRC.out.1.symm
  by_cases h0 : k = 0
  ·obtain ⟨rfl, rfl, rfl⟩ := hnil6 h0
   subst h0
   simpa using Bo.nil _ _
  ·refine Bo.mono ⟨hlen.symm, ?_⟩ hs2
   have h := hown6 (by omega)
   rwa [Nat.zero_add] at h
 have HO6 := Lib.hid hbo
 have hk6' : Keeps (fun k => k = rb) w2 w6 := ((Keeps.refl (fun k => k = rb) w2).drew).trans (hk6.mono (fun k _ h => by cases h.2))
 have HK6 : Hid (Keeps (fun k => k = rb) w w6) := Lib.hid (HKP.out.trans hk6')
 have HR6 : Hid (Blk w6 rb #[.slice a m cap, .int .i64 ((p : Int) + (k : Int))] 68) := Lib.hid (hk6.blk (show Blk w2.drew rb _ _ from Blk.drew HR2.out) (fun h => by cases h.2))
 clear hk6 hk6' hown6 hnil6 hbo hi0 hz0 hz1 hz2 hS c0 c1
 have c0 : w6.cell? ⟨rb, 0, none⟩ = some (.slice a m cap) := HR6.out.cell 0
 have c1 : w6.cell? ⟨rb, 1, none⟩ = some (.int .i64 ((p : Int) + (k : Int))) := HR6.out.cell 1
 have hS : (fun w' : World => w'.cell? ⟨rb, 0, none⟩ = some (.slice a m cap) ∧ w'.cell? ⟨rb, 1, none⟩ = some (.int .i64 ((p : Int) + (k : Int)))) w6 := ⟨c0, c1⟩
 refine ⟨hS, ?_⟩
 refine tH (i := 17) (v := ?_) rfl ?_ hS ?_
 rotate_left
 ·intro wz ⟨_, _⟩; go_simp; try with_reducible rfl
 refine wpAnyH_done (by kernel_rfl) ?_ _
 clear hS
 go_wp2_with fail
 refine bodyPost_ret (v := .slice a6 k c6) (by kernel_rfl) (by kernel_rfl) ?_
 refine ⟨HK6.out, ?_⟩
 rw [HE.out]
 exact ⟨p + k, _, rfl, ⟨a6, k, c6, rfl, HO6.out⟩, HRD.out.on hat HK6.out HR6.out⟩

theorem take_any (rb : Nat) (a : Option Addr) (m cap : Nat) (xs : List UInt8) (p k : Nat) (ys : List UInt8) (w : World) (hr : Re w rb a m cap xs p ys) (hk : k ≤ 4611686018427387903) :
  Calls Try.prog 60 #[.pointer (some ⟨rb, 0, none⟩), .int .u64 (k : Int)] w (ReP rb a m cap xs (vBytes w.heap.size) (ptk k ys) w) := by
 by_cases h : k ≤ m - p
 ·exact take_yes rb a m cap xs p k ys w hr h
 ·exact take_no rb a m cap xs p k ys w hr hk h

/-- One after another. -/
theorem ReP.after {α : Type} {rb : Nat} {a : Option Addr} {m cap : Nat} {xs : List UInt8} {V V' : α → Value → World → Prop} {r : Option (α × List UInt8)} {w w1 : World} {e : Ending} {w' : World} (h : ReP rb a m cap xs V r w1 e w') (hk : Keeps (fun k => k = rb) w w1) (hV : ∀ x v w', V x v w' → V' x v w') : ReP rb a m cap xs V' r w e w' := by
 obtain ⟨h1, h2⟩ := h
 refine ⟨hk.trans h1, ?_⟩
 cases r with
 | none => exact h2
 | some x =>
  obtain ⟨p, val, h3, h4, h5⟩ := h2
  exact ⟨p, val, h3, hV _ _ _ h4, h5⟩
theorem ReP.panic {α : Type} {rb : Nat} {a : Option Addr} {m cap : Nat} {xs : List UInt8} {V : α → Value → World → Prop} {w w' : World} (hk : Keeps (fun k => k = rb) w w') : ReP rb a m cap xs V none w (.panicked [{ v := stopV, recovered := false }]) w' := ⟨hk, rfl⟩
theorem vBytes.mono {b b' : Nat} (h : b' ≤ b) {x : List UInt8} {v : Value} {w : World} (hv : vBytes b x v w) : vBytes b' x v w := by
 obtain ⟨a, n, c, rfl, ho⟩ := hv
 exact ⟨a, n, c, rfl, ho.mono h⟩

set_option maxHeartbeats 800000 in
theorem rtext_any (rb : Nat) (a : Option Addr) (m cap : Nat) (xs : List UInt8) (p : Nat) (ys : List UInt8) (w : World) (hr : Re w rb a m cap xs p ys) :
  Calls Try.prog 51 #[.pointer (some ⟨rb, 0, none⟩)] w (ReP rb a m cap xs (vBytes w.heap.size) (ptx ys) w) := by
 have HR := Lib.hid hr
 clear hr
 go_enter Try.func51, Try.ntmps51
 go_wp2_with fail
 refine (num_any rb a m cap xs p ys w HR.out).mono ?_
 rintro e w1 ⟨hk1, hr1⟩
 have HK1 := Lib.hid hk1
 clear hk1
 cases hq : pn ys with
 | none =>
  rw [hq] at hr1
  have HQ : Hid (ptx ys = none) := Lib.hid (by unfold ptx; rw [pb_none _ hq])
  have hr' : e = .panicked [{ v := stopV, recovered := false }] := hr1
  subst hr'
  clear hr1 hq
  go_wp2_with fail
  refine ⟨rfl, ?_⟩
  rw [HQ.out]
  exact ReP.panic HK1.out
 | some x =>
  obtain ⟨v, y⟩ := x
  rw [hq] at hr1
  obtain ⟨p1, val, rfl, rfl, hr1⟩ := hr1
  have hb := pn_bd hq
  obtain ⟨k, hk⟩ : ∃ k : Nat, v = k := ⟨v.toNat, by omega⟩
  subst hk
  have HQ : Hid (ptx ys = ptk k y) := Lib.hid (by unfold ptx; rw [pb_some _ hq, Int.toNat_natCast])
  have hk8 : k ≤ 4611686018427387903 := by omega
  have HR1 := Lib.hid hr1
  clear hr1 hq hb
  go_wp2_with fail
  refine (take_any rb a m cap xs p1 k y w1 HR1.out hk8).mono ?_
  intro e w2 h2
  have H2 := Lib.hid (ReP.after (V' := vBytes w.heap.size) h2 HK1.out (fun x v w' h => h.mono HK1.out.size))
  rw [← HQ.out] at H2
  clear h2
  have hq2 := H2.out.2
  cases hq : ptx ys with
  | none =>
   rw [hq] at hq2
   have hr' : e = .panicked [{ v := stopV, recovered := false }] := hq2
   subst hr'
   have HH := Lib.hid hq
   clear hq2 hq
   go_wp2_with fail
   refine ⟨rfl, ?_⟩
   have h := H2.out
   rw [HH.out] at h
   exact h
  | some x =>
   rw [hq] at hq2
   obtain ⟨p2, val, rfl, hV, hr2⟩ := hq2
   have HV := Lib.hid hV
   have HR2 := Lib.hid hr2
   have HH := Lib.hid hq
   clear hq hV hr2
   go_wp2_with fail
   go_returns
   exact H2.out

end Go.Proofs.Ytgfkgmmigbpciaa

/- The reader of the package qframe: frames that it answers; padding. -/
namespace Go.Proofs.Ytgfkgmmigbpciaa
set_option linter.unusedSimpArgs false
set_option linter.unusedVariables false
open Go.RowKit Go.Deep

/-- A frame in memory of one's own. -/
structure Qn (base : Nat) (w : World) (f : Qf) : Prop where
 q : Qin w f
 hb : ∀ b, f.a.map (·.block) = some b → base ≤ b ∧ b < w.heap.size
 hr : ∀ b, f.ra.map (·.block) = some b → base ≤ b ∧ b < w.heap.size
theorem Qn.keep {base : Nat} {w w' : World} {f : Qf} {S : Nat → Prop} (h : Qn base w f) (k : Keeps S w w') (hs : ∀ b, S b → ¬ (base ≤ b ∧ b < w.heap.size)) : Qn base w' f :=
 ⟨h.q.keep k (fun b hb hS => hs b hS (h.hb b hb)) (fun b hb hS => hs b hS (h.hr b hb)), fun b hb => ⟨(h.hb b hb).1, Nat.lt_of_lt_of_le (h.hb b hb).2 k.size⟩, fun b hb => ⟨(h.hr b hb).1, Nat.lt_of_lt_of_le (h.hr b hb).2 k.size⟩⟩
theorem Qn.mono {b b' : Nat} {w : World} {f : Qf} (h : Qn b w f) (hb : b' ≤ b) : Qn b' w f := ⟨h.q, fun x hx => ⟨Nat.le_trans hb (h.hb x hx).1, (h.hb x hx).2⟩, fun x hx => ⟨Nat.le_trans hb (h.hr x hx).1, (h.hr x hx).2⟩⟩
/-- A frame is answered. -/
def vFrame (base : Nat) (c : Qc) (val : Value) (w : World) : Prop := ∃ f : Qf, f.c = c ∧ val = .agg f.cs ∧ Qn base w f
theorem inU_0 : inU 0 := ⟨by omega, by omega⟩
/-- A frame of numbers alone. -/
theorem Qn.plain (base : Nat) (w : World) (t id off mx code delay N : Int) (fin uni app : Bool) (ht : inU t) (hid : inU id) (hoff : inU off) (hmx : inU mx) (hcode : inU code) (hdelay : inU delay) (hN : inU N) (hN2 : N ≤ 9223372036854775807) :
  Qn base w ⟨⟨t, id, off, fin, mx, code, delay, [], [], uni, app, N⟩, none, 0, 0, none, 0, 0⟩ :=
 ⟨⟨By.nil w, Rv.nil w, ⟨ht, hid, hoff, hmx, hcode, hdelay, fun r hr => (by cases hr), (by have := hN.1; show (-9223372036854775808 : Int) ≤ N; omega), hN2⟩⟩, fun b hb => (by cases hb), fun b hb => (by cases hb)⟩
/-- A frame of numbers and bytes. -/
theorem Qn.bytes (base : Nat) (w : World) (t id off mx code : Int) (fin uni app : Bool) (ht : inU t) (hid : inU id) (hoff : inU off) (hmx : inU mx) (hcode : inU code) (a : Option Addr) (n c : Nat) (xs : List UInt8) (ho : Bo base w a n c xs) :
  Qn base w ⟨⟨t, id, off, fin, mx, code, 0, [], xs, uni, app, 0⟩, none, 0, 0, a, n, c⟩ :=
 ⟨⟨ho.by, Rv.nil w, ⟨ht, hid, hoff, hmx, hcode, inU_0, fun r hr => (by cases hr), (by show (-9223372036854775808 : Int) ≤ 0; omega), (by show (0 : Int) ≤ 9223372036854775807; omega)⟩⟩, fun b hb => ho.ge b hb, fun b hb => (by cases hb)⟩

/-- Twelve stores. -/
theorem qs_blk {w : World} {b : Nat} {u0 u1 u2 u3 u4 u5 u6 u7 u8 u9 u10 u11 : Value} {t : TypeId} (h : Blk w b #[u0, u1, u2, u3, u4, u5, u6, u7, u8, u9, u10, u11] t) (v0 v1 v2 v3 v4 v5 v6 v7 v8 v9 v10 v11 : Value) : Blk ((((((((((((w.setCell ⟨b, 0, none⟩ v0).setCell ⟨b, 1, none⟩ v1).setCell ⟨b, 2, none⟩ v2).setCell ⟨b, 3, none⟩ v3).setCell ⟨b, 4, none⟩ v4).setCell ⟨b, 5, none⟩ v5).setCell ⟨b, 6, none⟩ v6).setCell ⟨b, 7, none⟩ v7).setCell ⟨b, 8, none⟩ v8).setCell ⟨b, 9, none⟩ v9).setCell ⟨b, 10, none⟩ v10).setCell ⟨b, 11, none⟩ v11) b #[v0, v1, v2, v3, v4, v5, v6, v7, v8, v9, v10, v11] t :=
 ((((((((((((h.set 0 v0).set 1 v1).set 2 v2).set 3 v3).set 4 v4).set 5 v5).set 6 v6).set 7 v7).set 8 v8).set 9 v9).set 10 v10).set 11 v11).as (by kernel_rfl)
theorem qs_keep {S : Nat → Prop} {w0 w : World} {b : Nat} (h : Keeps S w0 w) (hb : b < w0.heap.size → S b) (v0 v1 v2 v3 v4 v5 v6 v7 v8 v9 v10 v11 : Value) : Keeps S w0 ((((((((((((w.setCell ⟨b, 0, none⟩ v0).setCell ⟨b, 1, none⟩ v1).setCell ⟨b, 2, none⟩ v2).setCell ⟨b, 3, none⟩ v3).setCell ⟨b, 4, none⟩ v4).setCell ⟨b, 5, none⟩ v5).setCell ⟨b, 6, none⟩ v6).setCell ⟨b, 7, none⟩ v7).setCell ⟨b, 8, none⟩ v8).setCell ⟨b, 9, none⟩ v9).setCell ⟨b, 10, none⟩ v10).setCell ⟨b, 11, none⟩ v11) :=
 ((((((((((((h.setCell (p := ⟨b, 0, none⟩) hb v0).setCell (p := ⟨b, 1, none⟩) hb v1).setCell (p := ⟨b, 2, none⟩) hb v2).setCell (p := ⟨b, 3, none⟩) hb v3).setCell (p := ⟨b, 4, none⟩) hb v4).setCell (p := ⟨b, 5, none⟩) hb v5).setCell (p := ⟨b, 6, none⟩) hb v6).setCell (p := ⟨b, 7, none⟩) hb v7).setCell (p := ⟨b, 8, none⟩) hb v8).setCell (p := ⟨b, 9, none⟩) hb v9).setCell (p := ⟨b, 10, none⟩) hb v10).setCell (p := ⟨b, 11, none⟩) hb v11)
theorem q12_cells {w : World} {b : Nat} {u0 u1 u2 u3 u4 u5 u6 u7 u8 u9 u10 u11 : Value} {t : TypeId} (h : Blk w b #[u0, u1, u2, u3, u4, u5, u6, u7, u8, u9, u10, u11] t) :
  w.cell? ⟨b, 0, none⟩ = some u0 ∧ w.cell? ⟨b, 1, none⟩ = some u1 ∧ w.cell? ⟨b, 2, none⟩ = some u2 ∧ w.cell? ⟨b, 3, none⟩ = some u3 ∧ w.cell? ⟨b, 4, none⟩ = some u4 ∧ w.cell? ⟨b, 5, none⟩ = some u5 ∧ w.cell? ⟨b, 6, none⟩ = some u6 ∧ w.cell? ⟨b, 7, none⟩ = some u7 ∧ w.cell? ⟨b, 8, none⟩ = some u8 ∧ w.cell? ⟨b, 9, none⟩ = some u9 ∧ w.cell? ⟨b, 10, none⟩ = some u10 ∧ w.cell? ⟨b, 11, none⟩ = some u11 := ⟨h.cell 0, h.cell 1, h.cell 2, h.cell 3, h.cell 4, h.cell 5, h.cell 6, h.cell 7, h.cell 8, h.cell 9, h.cell 10, h.cell 11⟩
theorem q12_free {w : World} {b : Nat} {u0 u1 u2 u3 u4 u5 u6 u7 u8 u9 u10 u11 : Value} {t : TypeId} (h : Blk w b #[u0, u1, u2, u3, u4, u5, u6, u7, u8, u9, u10, u11] t) :
  w.frozen? ⟨b, 0, none⟩ = false ∧ w.frozen? ⟨b, 1, none⟩ = false ∧ w.frozen? ⟨b, 2, none⟩ = false ∧ w.frozen? ⟨b, 3, none⟩ = false ∧ w.frozen? ⟨b, 4, none⟩ = false ∧ w.frozen? ⟨b, 5, none⟩ = false ∧ w.frozen? ⟨b, 6, none⟩ = false ∧ w.frozen? ⟨b, 7, none⟩ = false ∧ w.frozen? ⟨b, 8, none⟩ = false ∧ w.frozen? ⟨b, 9, none⟩ = false ∧ w.frozen? ⟨b, 10, none⟩ = false ∧ w.frozen? ⟨b, 11, none⟩ = false := ⟨h.free 0, h.free 1, h.free 2, h.free 3, h.free 4, h.free 5, h.free 6, h.free 7, h.free 8, h.free 9, h.free 10, h.free 11⟩
theorem ptx_bd {ys y bs : List UInt8} (h : ptx ys = some (bs, y)) : bs.length ≤ ys.length := by
 unfold ptx at h
 cases hq : pn ys with
 | none => rw [pb_none _ hq] at h; cases h
 | some x =>
  obtain ⟨v, z⟩ := x
  rw [pb_some _ hq] at h
  have h1 := pn_bd hq
  have h2 := ptk_bd h
  omega
theorem zeros_le : ∀ l : List UInt8, zeros l ≤ l.length
 | [] => Nat.le_refl _
 | c :: l => by unfold zeros; split; exact Nat.succ_le_succ (zeros_le l); exact Nat.zero_le _
theorem zeros_get : ∀ (l : List UInt8) (i : Nat) (hi : i < zeros l) (hl : i < l.length), l[i] = 0
 | c :: l, i, hi, hl => by
  unfold zeros at hi
  split at hi
  ·rename_i h
   cases i with
   | zero => exact h
   | succ i => exact zeros_get l i (by omega) (by simpa using hl)
  ·omega
theorem zeros_end : ∀ (l : List UInt8) (hl : zeros l < l.length), l[zeros l] ≠ 0
 | c :: l, hl => by
  by_cases h : c = 0
  ·have e : zeros (c :: l) = zeros l + 1 := by simp [zeros, h]
   have hl' : zeros l < l.length := by rw [e] at hl; simpa using hl
   have := zeros_end l hl'
   simp only [e, List.getElem_cons_succ]
   exact this
  ·have e : zeros (c :: l) = 0 := by simp [zeros, h]
   simp only [e, List.getElem_cons_zero]
   exact h
/-- The bytes that a reader has before it. -/
theorem Re.at_ {w : World} {rb : Nat} {a : Option Addr} {m cap : Nat} {xs : List UInt8} {p : Nat} {ys : List UInt8} (h : Re w rb a m cap xs p ys) (hn : 0 < ys.length) :
  ∃ b off, a = some ⟨b, off, none⟩ ∧ ∀ i (hi : i < ys.length), w.cell? ⟨b, off + (p + i), none⟩ = some (.int .u8 (ys[i].toNat : Int)) := by
 have hl := h.len
 obtain ⟨b, off, ha, _, hc⟩ := h.by_.get (by omega)
 refine ⟨b, off, ha, fun i hi => ?_⟩
 have hx := h.by_.1
 have h1 := hc (p + i) (by omega)
 have h2 : ys[i] = xs[p + i]'(by omega) := by
  have hd := h.d
  subst hd
  rw [List.getElem_drop]
 rw [h2]
 exact h1

theorem pad_results (fr : Array Value) (w : World) (b : Nat) {u0 u1 u2 u3 u4 u5 u6 u7 u8 u9 u10 u11 : Value} {t : TypeId} (h2 : fr[2]?.getD undef = .pointer (some ⟨b, 0, none⟩)) (hb : Blk w b #[u0, u1, u2, u3, u4, u5, u6, u7, u8, u9, u10, u11] t) :
  (results Try.f49 fr).run Try.prog w = .ok (.agg #[u0, u1, u2, u3, u4, u5, u6, u7, u8, u9, u10, u11]) w := by
 obtain ⟨s0, s1, s2, s3, s4, s5, s6, s7, s8, s9, s10, s11⟩ := q12_cells hb
 simp [results, Try.results49, go_sem, h2, s0, s1, s2, s3, s4, s5, s6, s7, s8, s9, s10, s11]

theorem pad_next {w wr : World} {rb i : Nat} {a : Option Addr} {m cap : Nat} {xs : List UInt8} {p : Nat} {ys : List UInt8} {b : Nat} {cs : Array Value} {t : TypeId} (h : Re wr rb a m cap xs (p + i) (ys.drop i)) (hk : Keeps (fun k => k = rb) w wr) (hb : Blk wr b cs t) (hne : b ≠ rb) (hlt : p + i + 1 ≤ m) (q : Nat) :
  Re ((wr.drewN q).setCell ⟨rb, 1, none⟩ (.int .i64 ((p : Int) + (i : Int) + 1))) rb a m cap xs (p + (i + 1)) (ys.drop (i + 1)) ∧ Keeps (fun k => k = rb) w ((wr.drewN q).setCell ⟨rb, 1, none⟩ (.int .i64 ((p : Int) + (i : Int) + 1))) ∧ Blk ((wr.drewN q).setCell ⟨rb, 1, none⟩ (.int .i64 ((p : Int) + (i : Int) + 1))) b cs t := by
 have hk1 : Keeps (fun k => k = rb) wr ((wr.drewN q).setCell ⟨rb, 1, none⟩ (.int .i64 ((p : Int) + (i : Int) + 1))) := ((Keeps.refl _ wr).drewN q).put 1 _
 refine ⟨?_, hk.trans hk1, hk1.blk hb hne⟩
 have hw := ((h.k.drewN q).set 1 (.int .i64 ((p : Int) + (i : Int) + 1))).as (cs' := #[.slice a m cap, .int .i64 (((p + i : Nat) : Int) + ((1 : Nat) : Int))]) (by rw [show (((p + i : Nat) : Int) + ((1 : Nat) : Int)) = (p : Int) + (i : Int) + 1 by omega]; rfl)
 have h2 := h.on hlt hk1 hw
 rwa [List.drop_drop, Nat.add_assoc] at h2

set_option maxRecDepth 100000 in
set_option maxHeartbeats 3200000 in
theorem padding_any (rb : Nat) (a : Option Addr) (m cap : Nat) (xs : List UInt8) (p : Nat) (ys : List UInt8) (w : World) (hr : Re w rb a m cap xs p ys) (hlt : ∀ b, a.map (·.block) = some b → b < w.heap.size) :
  Calls Try.prog 49 #[.pointer (some ⟨rb, 0, none⟩)] w (ReP rb a m cap xs (vFrame w.heap.size) (padD ys) w) := by
 have hl := hr.small
 have hat := hr.le
 have hlen := hr.len
 have hcap := hr.by_.2.le
 have hzl := zeros_le ys
 have HR := Lib.hid hr
 have HK0 : Hid (Keeps (fun _ => False) w (w.alloc (.cells #[.int .u64 0, .int .u64 0, .int .u64 0, .bool false, .int .u64 0, .int .u64 0, .int .u64 0, .slice none 0 0, .slice none 0 0, .bool false, .bool false, .int .i64 0] 32 (0, 0)))) := Lib.hid ((Keeps.refl _ w).alloc _)
 have HB0 : Hid (Blk (w.alloc (.cells #[.int .u64 0, .int .u64 0, .int .u64 0, .bool false, .int .u64 0, .int .u64 0, .int .u64 0, .slice none 0 0, .slice none 0 0, .bool false, .bool false, .int .i64 0] 32 (0, 0))) w.heap.size #[.int .u64 0, .int .u64 0, .int .u64 0, .bool false, .int .u64 0, .int .u64 0, .int .u64 0, .slice none 0 0, .slice none 0 0, .bool false, .bool false, .int .i64 0] 32) := Lib.hid (Blk.new w _ _)
 have hrb := hr.k.lt
 have HNE : Hid (w.heap.size ≠ rb) := Lib.hid (by omega)
 have HLT := Lib.hid hlt
 clear hr hlt
 go_enter Try.func49, Try.ntmps49
 go_wp2_with fail
 have HRA : Hid (Re (w.alloc (.cells #[.int .u64 0, .int .u64 0, .int .u64 0, .bool false, .int .u64 0, .int .u64 0, .int .u64 0, .slice none 0 0, .slice none 0 0, .bool false, .bool false, .int .i64 0] 32 (0, 0))) rb a m cap xs p ys) := Lib.hid (HR.out.same HK0.out)
 have HKA : Hid (Keeps (fun k => k = rb) w (w.alloc (.cells #[.int .u64 0, .int .u64 0, .int .u64 0, .bool false, .int .u64 0, .int .u64 0, .int .u64 0, .slice none 0 0, .slice none 0 0, .bool false, .bool false, .int .i64 0] 32 (0, 0)))) := Lib.hid HK0.out.to
 generalize w.alloc (.cells #[.int .u64 0, .int .u64 0, .int .u64 0, .bool false, .int .u64 0, .int .u64 0, .int .u64 0, .slice none 0 0, .slice none 0 0, .bool false, .bool false, .int .i64 0] 32 (0, 0)) = W0 at *
 go_loopg [3] (zeros ys) (fun k vn wr => ∃ i : Nat, vn = .int .i64 (1 + (i : Int)) ∧ k + i = zeros ys ∧ Re wr rb a m cap xs (p + i) (ys.drop i) ∧ Keeps (fun k => k = rb) w wr ∧ Blk wr w.heap.size #[.int .u64 0, .int .u64 0, .int .u64 0, .bool false, .int .u64 0, .int .u64 0, .int .u64 0, .slice none 0 0, .slice none 0 0, .bool false, .bool false, .int .i64 0] 32)
 case atStart => exact ⟨0, rfl, by omega, HRA.out, HKA.out, HB0.out⟩
 case round =>
  obtain ⟨i, rfl, hki, hri, hkw, hbw⟩ := hrel
  have c0 : wr.cell? ⟨rb, 0, none⟩ = some (.slice a m cap) := hri.k.cell 0
  have c1 : wr.cell? ⟨rb, 1, none⟩ = some (.int .i64 ((p + i : Nat) : Int)) := hri.k.cell 1
  have y1 : wr.frozen? ⟨rb, 1, none⟩ = false := hri.k.free 1
  rw [show ((p + i : Nat) : Int) = (p : Int) + (i : Int) by omega] at c1
  have HRI := Lib.hid hri
  have HKW := Lib.hid hkw
  have HBW := Lib.hid hbw
  have HKI := Lib.hid hki
  clear hri hkw hbw
  have hpi : p + i ≤ m := by omega
  have hz0 : (0 : Int) ≤ (p : Int) + (i : Int) := by omega
  have hzt : ((p : Int) + (i : Int)).toNat = p + i := by omega
  by_cases hlt : p + i < m
  ·have hix : i < ys.length := by omega
   obtain ⟨ba, off, rfl, hcell⟩ := HRI.out.at_ (by rw [List.length_drop]; omega)
   have e0 := hcell 0 (by rw [List.length_drop]; omega)
   have hg : (ys.drop i)[0]'(by rw [List.length_drop]; omega) = ys[i] := by rw [List.getElem_drop]; simp
   rw [hg] at e0
   simp only [Nat.add_zero] at e0
   clear hcell hg
   have hltI : (p : Int) + (i : Int) < (m : Int) := by omega
   have hltD : decide ((p : Int) + (i : Int) < (m : Int)) = true := decide_eq_true hltI
   by_cases hiz : i < zeros ys
   ·have hc0 : ys[i] = 0 := zeros_get ys i hiz hix
    rw [hc0] at e0
    have e0' : wr.cell? ⟨ba, off + (p + i), none⟩ = some (.int .u8 0) := e0
    clear e0 hc0
    obtain ⟨g, rfl⟩ : ∃ g, gk = g + 1 := ⟨gk - 1, by omega⟩
    go_wp2_with fail
    go_quiet (fail)
    go_wp2_with (go_region)
    all_goals
     go_roundg g
     case measure => omega
     case rel =>
      refine ⟨i + 1, ?_, by have := HKI.out; omega, ?_⟩
      ·rw [show (1 : Int) + (i : Int) + 1 = 1 + ((i + 1 : Nat) : Int) by omega]
      ·exact pad_next HRI.out HKW.out HBW.out HNE.out (by omega) _
   ·have HIZ : Hid (i = zeros ys) := Lib.hid (by omega)
    have hcn : ys[i] ≠ 0 := by
     have h := zeros_end ys (by have := HIZ.out; omega)
     have hi := HIZ.out
     subst hi
     exact h
    obtain ⟨B, hB⟩ : ∃ B : Int, (ys[i].toNat : Int) = B := ⟨_, rfl⟩
    have hBn : (B == 0) = false := by
     have h0 : ys[i].toNat ≠ 0 := fun h => hcn (UInt8.toNat_inj.1 h)
     simp; omega
    rw [hB] at e0
    clear hcn hB hiz
    obtain ⟨x0, x1, x2, x3, x4, x5, x6, x7, x8, x9, x10, x11⟩ := q12_cells HBW.out
    obtain ⟨z0, z1, z2, z3, z4, z5, z6, z7, z8, z9, z10, z11⟩ := q12_free HBW.out
    go_wp2_with fail
    go_quiet (fail)
    go_wp2_with fail
    refine bodyPost_ret (v := ?_) ?_ (by kernel_rfl) ?_
    rotate_left
    ·exact pad_results _ _ w.heap.size (by kernel_rfl) (qs_blk (HBW.out.drewN _) _ _ _ _ _ _ _ _ _ _ _ _)
    refine ⟨qs_keep (HKW.out.drewN _) (fun h => absurd h (by omega)) _ _ _ _ _ _ _ _ _ _ _ _, ?_⟩
    refine ⟨p + i, _, rfl, ?_, ?_⟩
    ·refine ⟨⟨⟨0, 0, 0, false, 0, 0, 0, [], [], false, false, (zeros ys : Int) + 1⟩, none, 0, 0, none, 0, 0⟩, rfl, ?_, Qn.plain _ _ _ _ _ _ _ _ _ _ _ _ inU_0 inU_0 inU_0 inU_0 inU_0 inU_0 ⟨by omega, by omega⟩ (by omega)⟩
     rw [← HIZ.out, Int.add_comm]
     rfl
    ·show Re _ rb _ m cap xs (p + i) (ys.drop (zeros ys))
     rw [← HIZ.out]
     exact HRI.out.keep (qs_keep (S := fun k => k = w.heap.size) ((Keeps.refl _ _).drewN _) (fun _ => rfl) _ _ _ _ _ _ _ _ _ _ _ _) (fun h => HNE.out h.symm) (fun b hb h => by have := HLT.out b hb; omega)
  ·have HIZ : Hid (i = zeros ys) := Lib.hid (by omega)
   have hltI : ¬ (p : Int) + (i : Int) < (m : Int) := by omega
   have hltD : decide ((p : Int) + (i : Int) < (m : Int)) = false := decide_eq_false hltI
   obtain ⟨x0, x1, x2, x3, x4, x5, x6, x7, x8, x9, x10, x11⟩ := q12_cells HBW.out
   obtain ⟨z0, z1, z2, z3, z4, z5, z6, z7, z8, z9, z10, z11⟩ := q12_free HBW.out
   go_wp2_with fail
   go_quiet (fail)
   go_wp2_with fail
   refine bodyPost_ret (v := ?_) ?_ (by kernel_rfl) ?_
   rotate_left
   ·exact pad_results _ _ w.heap.size (by kernel_rfl) (qs_blk (HBW.out.drewN _) _ _ _ _ _ _ _ _ _ _ _ _)
   refine ⟨qs_keep (HKW.out.drewN _) (fun h => absurd h (by omega)) _ _ _ _ _ _ _ _ _ _ _ _, ?_⟩
   refine ⟨p + i, _, rfl, ?_, ?_⟩
   ·refine ⟨⟨⟨0, 0, 0, false, 0, 0, 0, [], [], false, false, (zeros ys : Int) + 1⟩, none, 0, 0, none, 0, 0⟩, rfl, ?_, Qn.plain _ _ _ _ _ _ _ _ _ _ _ _ inU_0 inU_0 inU_0 inU_0 inU_0 inU_0 ⟨by omega, by omega⟩ (by omega)⟩
    rw [← HIZ.out, Int.add_comm]
    rfl
   ·show Re _ rb _ m cap xs (p + i) (ys.drop (zeros ys))
    rw [← HIZ.out]
    exact HRI.out.keep (qs_keep (S := fun k => k = w.heap.size) ((Keeps.refl _ _).drewN _) (fun _ => rfl) _ _ _ _ _ _ _ _ _ _ _ _) (fun h => HNE.out h.symm) (fun b hb h => by have := HLT.out b hb; omega)

end Go.Proofs.Ytgfkgmmigbpciaa

/- Frames of one's own, all frames: what is said of them; the length of what is left. -/
namespace Go.Proofs.Ytgfkgmmigbpciaa
set_option linter.unusedSimpArgs false
set_option linter.unusedVariables false
open Go.RowKit Go.Deep

/-- Is what is left no longer than that? -/
def LeO {α : Type} (n : Nat) (r : Option (α × List UInt8)) : Prop := ∀ x, r = some x → x.2.length ≤ n
theorem LeO.none {α : Type} (n : Nat) : LeO (α := α) n none := fun x h => by cases h
theorem LeO.some {α : Type} {n : Nat} (v : α) (y : List UInt8) (h : y.length ≤ n) : LeO n (some (v, y)) := fun x hx => by cases hx; exact h
theorem LeO.pn {n : Nat} {ys : List UInt8} (h : ys.length ≤ n) : LeO n (pn ys) := fun x hx => by
 obtain ⟨v, y⟩ := x
 have := (pn_bd hx).2.2.1
 show y.length ≤ n
 omega
theorem LeO.ptk {n k : Nat} {ys : List UInt8} (h : ys.length ≤ n) : LeO n (ptk k ys) := fun x hx => by
 obtain ⟨v, y⟩ := x
 have := (ptk_bd hx).2.2
 show y.length ≤ n
 omega
theorem LeO.pb {α β : Type} {n : Nat} {r : Option (α × List UInt8)} {f : α → List UInt8 → Option (β × List UInt8)} (h : LeO n r) (hf : ∀ v y, y.length ≤ n → LeO n (f v y)) : LeO n (pb r f) := by
 unfold Go.Proofs.Ytgfkgmmigbpciaa.pb
 cases r with
 | none => exact LeO.none n
 | some x => exact hf x.1 x.2 (h x rfl)
theorem LeO.ite {α : Type} {n : Nat} {c : Prop} [Decidable c] {r s : Option (α × List UInt8)} (h1 : LeO n r) (h2 : LeO n s) : LeO n (if c then r else s) := by
 split
 ·exact h1
 ·exact h2
theorem LeO.ptx {n : Nat} {ys : List UInt8} (h : ys.length ≤ n) : LeO n (ptx ys) := LeO.pb (LeO.pn h) (fun _ _ hy => LeO.ptk hy)
theorem LeO.prs : ∀ (k : Nat) (f : Int) (ys : List UInt8) (n : Nat), ys.length ≤ n → LeO n (prs k f ys)
 | 0, _, _, _, h => LeO.some _ _ h
 | k + 1, _, _, n, h => LeO.pb (LeO.pn h) (fun _ _ h1 => LeO.ite (LeO.none n) (LeO.pb (LeO.pn h1) (fun _ _ h2 => LeO.ite (LeO.none n) (LeO.pb (LeO.prs k _ _ n h2) (fun _ _ h3 => LeO.some _ _ h3)))))
theorem LeO.dec (t : Int) (ys : List UInt8) : LeO ys.length (decT t ys) := by
 unfold decT othD padD oneD ackD resD stoD cryD tokD strD maxD msdD strsD nidD retD chaD cloD
 have h0 : ys.length ≤ ys.length := Nat.le_refl _
 repeat' first
  | assumption
  | exact LeO.none _
  | (apply LeO.some; first | assumption | (rw [List.length_drop]; omega) | simp)
  | apply LeO.ite
  | (apply LeO.pb; · first | (apply LeO.pn; assumption) | (apply LeO.ptk; assumption) | (apply LeO.ptx; assumption) | (apply LeO.prs; assumption) | (apply LeO.ite <;> first | (apply LeO.pn; assumption) | (apply LeO.ptx; assumption) | (apply LeO.some; first | assumption | simp)))
  | intro
theorem decQ_lt {ys y : List UInt8} {c : Qc} (h : decQ ys = some (c, y)) : y.length < ys.length := by
 unfold decQ at h
 cases hq : pn ys with
 | none => rw [pb_none _ hq] at h; cases h
 | some x =>
  obtain ⟨t, y1⟩ := x
  rw [pb_some _ hq] at h
  have h1 := (pn_bd hq).2.2.1
  split at h
  ·have h2 := LeO.dec t y1 _ h
   dsimp only at h2
   omega
  ·cases h

/-- All frames that bytes tell, if any. -/
def allQ (ys : List UInt8) : Option (List Qc) := if ys = [] then none else decsQ (ys.length + 1) ys
def appO (l : List Qc) (r : Option (List Qc)) : Option (List Qc) := match r with
 | some m => some (l ++ m)
 | none => none
theorem appO_nil (r : Option (List Qc)) : appO [] r = r := by cases r <;> rfl
theorem decs_end (n : Nat) : decsQ (n + 1) [] = some [] := by unfold decsQ; rw [if_pos rfl]
theorem decs_bad {n : Nat} {ys : List UInt8} (h0 : ys ≠ []) (h : decQ ys = none) : decsQ (n + 1) ys = none := by unfold decsQ; rw [if_neg h0, h]
theorem decs_go {n : Nat} {ys y : List UInt8} {c : Qc} (l : List Qc) (h0 : ys ≠ []) (h : decQ ys = some (c, y)) : appO l (decsQ (n + 1) ys) = appO (l ++ [c]) (decsQ n y) := by
 conv => lhs; unfold decsQ
 rw [if_neg h0, h]
 dsimp only
 cases decsQ n y with
 | none => rfl
 | some m => simp [appO]

theorem own_geQ {base : Nat} {w : World} {e : TypeId} {size : Nat} {a : Option Addr} {n cap : Nat} {cs : List Value} (h : w.ownsRow base e size (.slice a n cap) n cs) : ∀ b, a.map (·.block) = some b → base ≤ b ∧ b < w.heap.size := by
 intro b hb
 refine h.lt b ?_
 cases a with
 | none => cases hb
 | some a => simpa [Value.ownBlock] using hb
theorem infoQ : (Try.prog.info? 32).map (fun i => (i.zero, i.size, i.bytes)) = some (some (.agg #[.int .u64 0, .int .u64 0, .int .u64 0, .bool false, .int .u64 0, .int .u64 0, .int .u64 0, .slice none 0 0, .slice none 0 0, .bool false, .bool false, .int .i64 0]), 12, 120) := by kernel_rfl
theorem Qf.size (f : Qf) : f.cs.size = 12 := rfl
theorem Qf.one (f : Qf) : ∀ u ∈ f.cs.toList, u.oneCell' = true := by
 intro u hu
 unfold Qf.cs at hu
 simp only [List.mem_cons, List.not_mem_nil, or_false] at hu
 rcases hu with rfl | rfl | rfl | rfl | rfl | rfl | rfl | rfl | rfl | rfl | rfl | rfl <;> rfl
theorem src_qf {w : World} {b : Nat} {f : Qf} (h : Blk w b f.cs 32) : Src Try.prog 12 23 (.slice (some ⟨b, 0, none⟩) 1 1) 1 f.cs.toList w := by
 refine Src.ofSlice _ Try.underlying23 _ _ _ _ rfl (fun j u hj => ?_) f.one
 rw [Go.WideShapes.add_plain, Nat.zero_add, h.cell j]
 simpa using hj
def qfs (l : List Qf) : List Value := l.flatMap (fun f => f.cs.toList)
theorem qfs_snoc (l : List Qf) (f : Qf) : qfs (l ++ [f]) = qfs l ++ f.cs.toList := by simp [qfs]
theorem qfs_cons (f : Qf) (l : List Qf) : qfs (f :: l) = f.cs.toList ++ qfs l := by simp [qfs]
theorem Qf.len12 (f : Qf) : f.cs.toList.length = 12 := rfl
theorem qfs_length : ∀ (l : List Qf), (qfs l).length = l.length * 12
 | [] => rfl
 | t :: l => by
  rw [qfs_cons, List.length_append, qfs_length l, t.len12, List.length_cons]
  omega
theorem qfs_get : ∀ (l : List Qf) (i : Nat) (hi : i < l.length) (j : Nat), j < 12 → (qfs l)[i * 12 + j]? = l[i].cs[j]?
 | t :: l, 0, _, j, hj => by
  rw [qfs_cons, Nat.zero_mul, Nat.zero_add, List.getElem?_append_left (by rw [t.len12]; exact hj)]
  simp
 | t :: l, i + 1, hi, j, hj => by
  rw [qfs_cons, List.getElem?_append_right (by rw [t.len12]; omega), t.len12, show (i + 1) * 12 + j - 12 = i * 12 + j by omega]
  exact qfs_get l i (by simpa using hi) j hj

/-- Frames that a call has made itself. -/
def Qs (base : Nat) (w : World) (a : Option Addr) (cap : Nat) (l : List Qf) : Prop :=
 w.ownsRow base 32 12 (.slice a l.length cap) l.length (qfs l) ∧ ∀ f ∈ l, Qn base w f ∧ (∀ b, f.a.map (·.block) = some b → a.map (·.block) ≠ some b) ∧ (∀ b, f.ra.map (·.block) = some b → a.map (·.block) ≠ some b)
theorem Qs.nil (base : Nat) (w : World) : Qs base w none 0 [] := ⟨World.ownsRow_nil _ _ _ _, fun f hf => by cases hf⟩
theorem Qs.keep {base : Nat} {w w' : World} {S : Nat → Prop} {a : Option Addr} {cap : Nat} {l : List Qf} (h : Qs base w a cap l) (k : Keeps S w w') (hs : ∀ b, S b → b < base ∨ w.heap.size ≤ b) : Qs base w' a cap l := by
 refine ⟨own_keep h.1 k (fun b hb hS => ?_), fun f hf => ?_⟩
 ·have := own_geQ h.1 b hb
  have := hs b hS
  omega
 ·obtain ⟨h2, h3⟩ := h.2 f hf
  exact ⟨h2.keep k (fun b hS hb => by have := hs b hS; omega), h3⟩
theorem Qs.snoc {base : Nat} {w w' : World} {a a' : Option Addr} {cap cap' : Nat} {l : List Qf} {f : Qf} (h : Qs base w a cap l) (hk : Keeps (mine base a) w w') (hn : Near base w a a') (ho : w'.ownsRow base 32 12 (.slice a' (l.length + 1) cap') (l.length + 1) (qfs l ++ f.cs.toList))
  (hf : Qn base w f) (h1 : ∀ b, f.a.map (·.block) = some b → a.map (·.block) ≠ some b) (h2 : ∀ b, f.ra.map (·.block) = some b → a.map (·.block) ≠ some b) : Qs base w' a' cap' (l ++ [f]) := by
 refine ⟨by rw [List.length_append, qfs_snoc]; exact ho, fun g hg => ?_⟩
 have key : Qn base w g ∧ (∀ b, g.a.map (·.block) = some b → a.map (·.block) ≠ some b) ∧ (∀ b, g.ra.map (·.block) = some b → a.map (·.block) ≠ some b) := by
  rcases List.mem_append.1 hg with h3 | h3
  ·exact h.2 g h3
  ·simp only [List.mem_cons, List.not_mem_nil, or_false] at h3; subst h3; exact ⟨hf, h1, h2⟩
 obtain ⟨k1, k2, k3⟩ := key
 refine ⟨⟨k1.q.keep hk (fun b hb hS => k2 b hb hS.2) (fun b hb hS => k3 b hb hS.2), fun b hb => ⟨(k1.hb b hb).1, Nat.lt_of_lt_of_le (k1.hb b hb).2 hk.size⟩, fun b hb => ⟨(k1.hr b hb).1, Nat.lt_of_lt_of_le (k1.hr b hb).2 hk.size⟩⟩, fun b hb e => ?_, fun b hb e => ?_⟩
 ·rcases hn b e with h4 | ⟨h4, _⟩
  ·exact k2 b hb (h4 ▸ e)
  ·have := (k1.hb b hb).2; omega
 ·rcases hn b e with h4 | ⟨h4, _⟩
  ·exact k3 b hb (h4 ▸ e)
  ·have := (k1.hr b hb).2; omega
theorem Qs.qv {base : Nat} {w : World} {a : Option Addr} {cap : Nat} {l : List Qf} (h : Qs base w a cap l) : Qv w a l.length cap l := by
 have hv := own_vw h.1
 refine ⟨rfl, hv.le, hv.max, fun i hi => ⟨?_, (h.2 _ (List.getElem_mem hi)).1.q⟩⟩
 rcases hv.at_ with h0 | ⟨b, off, ha, hb, hc⟩
 ·have h1 := qfs_length l
  rw [h0] at h1
  simp at h1
  omega
 ·refine ⟨b, off, ha, hb, fun j v hv => ?_⟩
  have hj : j < 12 := by
   rcases Nat.lt_or_ge j 12 with h | h
   ·exact h
   ·rw [Array.getElem?_eq_none (by rw [Qf.size]; exact h)] at hv; cases hv
  have := hc (i * 12 + j) v (by rw [qfs_get l i hi j hj]; exact hv)
  rwa [← Nat.add_assoc] at this

/-- A call that may panic, in a region whose operation z writes what has been read. -/
theorem z_callP {P : Program} {ops : Array Oper} {Q : Exit → Act → World → Prop} {md : Region.Mode} {S : World → Prop} {z i : Nat} {o : Oper} {n : Nat} {l : Array Bool} {a : Act} {w : World} (f : FuncId) (args : Array Value) (ho : ops[i]? = some o) (hr : Region.ready md ops l = [i]) (hw : Region.wanted o (yielded ops a.tmps) = true)
  (hrun : (execOp a.eval o).run P w = .ok (.enter f args) w)
  (h : Calls P f args w fun e w' => (∃ v, e = .returned v ∧ S w' ∧ wpAnyZ P md ops Q S z n (l.setIfInBounds i true) (a.put o.dst v) w') ∨ (∃ c, e = .panicked c ∧ Q (.panic c) a w')) : wpAnyZ P md ops Q S z (n + 1) l a w := by
 refine z_one ho hr hw fun K hK => ?_
 unfold Oper.wp
 rw [hrun, Oper.upon_enter]
 refine Calls.mono h ?_
 rintro e w' (⟨v, rfl, h1, h2⟩ | ⟨c, rfl, h1⟩)
 ·exact hK _ _ (fun _ => h1) h2
 ·exact h1

/-- What Read answers. -/
def ReadP (m : Nat) (r : Option (Qc × List UInt8)) (w : World) (e : Ending) (w' : World) : Prop :=
 Below w.heap.size w w' ∧ match r with
  | some x => ∃ f : Qf, f.c = x.1 ∧ e = .returned (.tuple #[.agg f.cs, .int .i64 ((m - x.2.length : Nat) : Int), .int .i64 0]) ∧ Qn w.heap.size w' f
  | none => e = .returned (.tuple #[.agg #[.int .u64 0, .int .u64 0, .int .u64 0, .bool false, .int .u64 0, .int .u64 0, .int .u64 0, .slice none 0 0, .slice none 0 0, .bool false, .bool false, .int .i64 0], .int .i64 0, .int .i64 30])
/-- What All answers. -/
def AllP (r : Option (List Qc)) (w : World) (e : Ending) (w' : World) : Prop :=
 Below w.heap.size w w' ∧ match r with
  | some cs => ∃ a cap l, l.map (·.c) = cs ∧ e = .returned (.tuple #[.slice a l.length cap, .int .i64 0]) ∧ Qs w.heap.size w' a cap l
  | none => e = .returned (.tuple #[.slice none 0 0, .int .i64 30])

end Go.Proofs.Ytgfkgmmigbpciaa
