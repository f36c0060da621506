import Derived.Test.YtgfkgmmigbpciaaH3B
import Derived.Test.YtgfkgmmigbpciaaHeld
import Derived.Deep.DeepCutAuto
import Derived.Defers
import Derived.Recover
/- QUIC's frames: what they are, how they are written: the plain law. -/
namespace Go.Proofs.Ytgfkgmmigbpciaa
set_option linter.unusedSimpArgs false
set_option linter.unusedVariables false
open Go.RowKit Go.Deep

/-- What a frame says. -/
structure Qc where
 t : Int
 id : Int
 off : Int
 fin : Bool
 mx : Int
 code : Int
 delay : Int
 rs : List (Int × Int)
 xs : List UInt8
 uni : Bool
 app : Bool
 N : Int

/-- Ranges, each below the one ahead of it, all up to a limit. -/
def chainB : Int → List (Int × Int) → Bool
 | _, [] => true
 | lim, r :: rest => decide (r.1 ≤ r.2) && decide (r.2 ≤ lim) && chainB (r.1 - 2) rest
def gapsL : Int → List (Int × Int) → List Int
 | _, [] => []
 | f, r :: rest => (f - r.2 - 2) :: (r.2 - r.1) :: gapsL r.1 rest
def ackOK (rs : List (Int × Int)) : Bool := decide (1 ≤ rs.length) && decide (rs.length ≤ 32) && chainB 4611686018427387903 rs
def ackL (delay : Int) : List (Int × Int) → List Int
 | [] => []
 | r :: rest => 2 :: r.2 :: delay :: (rest.length : Int) :: (r.2 - r.1) :: gapsL r.1 rest

def b2i (b : Bool) : Int := if b then 1 else 0
/-- Are bytes at a place within what may be? -/
def endB (off : Int) (n : Nat) : Bool := decide (off ≤ 4611686018427387903) && decide ((n : Int) ≤ 4611686018427387903 - off)
def strT (c : Qc) : Int := 10 + b2i c.fin + (if c.off = 0 then 0 else 4)

/-- The numbers that a frame is told by, and what stands behind them. -/
def planQ (c : Qc) : Option (List Int × List UInt8) :=
 if c.t = 1 then some ([1], [])
 else if c.t = 30 then some ([30], [])
 else if c.t = 2 then (if ackOK c.rs then some (ackL c.delay c.rs, []) else none)
 else if c.t = 4 then some ([4, c.id, c.code, c.mx], [])
 else if c.t = 5 then some ([5, c.id, c.code], [])
 else if c.t = 6 then (if endB c.off c.xs.length then some ([6, c.off, (c.xs.length : Int)], c.xs) else none)
 else if c.t = 7 then (if 0 < c.xs.length then some ([7, (c.xs.length : Int)], c.xs) else none)
 else if c.t = 8 then (if endB c.off c.xs.length then some ((if c.off = 0 then [strT c, c.id, (c.xs.length : Int)] else [strT c, c.id, c.off, (c.xs.length : Int)]), c.xs) else none)
 else if c.t = 16 then some ([16, c.mx], [])
 else if c.t = 20 then some ([20, c.mx], [])
 else if c.t = 17 then some ([17, c.id, c.mx], [])
 else if c.t = 21 then some ([21, c.id, c.mx], [])
 else if c.t = 18 then (if c.mx ≤ 1152921504606846976 then some ([18 + b2i c.uni, c.mx], []) else none)
 else if c.t = 22 then (if c.mx ≤ 1152921504606846976 then some ([22 + b2i c.uni, c.mx], []) else none)
 else if c.t = 24 then (if c.mx ≤ c.id ∧ 16 < c.xs.length ∧ c.xs.length ≤ 36 then some ([24, c.id, c.mx], byt ((c.xs.length : Int) - 16) :: c.xs) else none)
 else if c.t = 25 then some ([25, c.id], [])
 else if c.t = 26 then (if c.xs.length = 8 then some ([26], c.xs) else none)
 else if c.t = 27 then (if c.xs.length = 8 then some ([27], c.xs) else none)
 else if c.t = 28 then some ((if c.app then [29, c.code, (c.xs.length : Int)] else [28, c.code, c.off, (c.xs.length : Int)]), c.xs)
 else none
/-- A frame as it is written, if it may be. -/
def encQ (c : Qc) : Option (List UInt8) :=
 if c.t = 0 then some (List.replicate (if c.N < 1 then 1 else c.N).toNat 0)
 else match planQ c with
  | some (l, tl) => if varsOK l then some (varsE l ++ tl) else none
  | none => none
/-- Frames, one behind another. -/
def encsQ : List Qc → Option (List UInt8)
 | [] => some []
 | c :: l => match encQ c with
  | some ys => match encsQ l with
   | some zs => some (ys ++ zs)
   | none => none
  | none => none

theorem encQ_plan {c : Qc} (h : c.t ≠ 0) : encQ c = match planQ c with
  | some (l, tl) => if varsOK l then some (varsE l ++ tl) else none
  | none => none := by unfold encQ; rw [if_neg h]
theorem encQ_some {c : Qc} {l : List Int} {tl : List UInt8} (h : c.t ≠ 0) (hp : planQ c = some (l, tl)) (hv : varsOK l = true) : encQ c = some (varsE l ++ tl) := by rw [encQ_plan h, hp]; simp [hv]
theorem encQ_bad {c : Qc} {l : List Int} {tl : List UInt8} (h : c.t ≠ 0) (hp : planQ c = some (l, tl)) (hv : varsOK l = false) : encQ c = none := by rw [encQ_plan h, hp]; simp [hv]
theorem encQ_none {c : Qc} (h : c.t ≠ 0) (hp : planQ c = none) : encQ c = none := by rw [encQ_plan h, hp]

theorem varsOK_append (l m : List Int) : varsOK (l ++ m) = (varsOK l && varsOK m) := by simp [varsOK]
theorem varsE_append (l m : List Int) : varsE (l ++ m) = varsE l ++ varsE m := by simp [varsE]
theorem varsOK_len (n : Nat) (h : n ≤ 1000000) : varsOK [(n : Int)] = true := by simp [varsOK] <;> omega
theorem encsQ_snoc : ∀ (l : List Qc) (c : Qc), encsQ (l ++ [c]) = match encsQ l with
  | some zs => match encQ c with
   | some ys => some (zs ++ ys)
   | none => none
  | none => none
 | [], c => by simp only [List.nil_append, encsQ]; cases encQ c <;> simp
 | d :: l, c => by
  rw [List.cons_append, encsQ, encsQ, encsQ_snoc l c]
  cases encQ d with
  | none => rfl
  | some ys => cases encsQ l with
   | none => rfl
   | some zs => cases encQ c with
    | none => rfl
    | some us => simp

/-- Numbers as a frame may have them. -/
def inU (x : Int) : Prop := 0 ≤ x ∧ x ≤ 18446744073709551615
structure Qc.wf (c : Qc) : Prop where
 t : inU c.t
 id : inU c.id
 off : inU c.off
 mx : inU c.mx
 code : inU c.code
 delay : inU c.delay
 rs : ∀ r ∈ c.rs, inU r.1 ∧ inU r.2
 N0 : -9223372036854775808 ≤ c.N
 N1 : c.N ≤ 9223372036854775807

/-- A frame in memory. -/
structure Qf where
 c : Qc
 ra : Option Addr
 rn : Nat
 rc : Nat
 a : Option Addr
 n : Nat
 cap : Nat
def Qf.cs (f : Qf) : Array Value := #[.int .u64 f.c.t, .int .u64 f.c.id, .int .u64 f.c.off, .bool f.c.fin, .int .u64 f.c.mx, .int .u64 f.c.code, .int .u64 f.c.delay, .slice f.ra f.rn f.rc, .slice f.a f.n f.cap, .bool f.c.uni, .bool f.c.app, .int .i64 f.c.N]
def Rgs : List (Int × Int) → List Value
 | [] => []
 | r :: l => .int .u64 r.1 :: .int .u64 r.2 :: Rgs l
theorem Rgs_length (l : List (Int × Int)) : (Rgs l).length = l.length * 2 := by induction l with
 | nil => rfl
 | cons r l ih => simp only [Rgs, List.length_cons, ih]; omega
theorem Rgs_get (l : List (Int × Int)) : ∀ (i : Nat) (hi : i < l.length), (Rgs l)[i * 2]? = some (.int .u64 l[i].1) ∧ (Rgs l)[i * 2 + 1]? = some (.int .u64 l[i].2) := by
 induction l with
 | nil => intro i hi; simp at hi
 | cons r l ih =>
  intro i hi
  cases i with
  | zero => exact ⟨rfl, rfl⟩
  | succ i =>
   have := ih i (by simpa using hi)
   rw [show (i + 1) * 2 = i * 2 + 1 + 1 by omega]
   simpa [Rgs] using this
theorem Rgs_append (l m : List (Int × Int)) : Rgs (l ++ m) = Rgs l ++ Rgs m := by induction l with
 | nil => rfl
 | cons r l ih => simp [Rgs, ih]
/-- Ranges in memory. -/
def Rv (w : World) (a : Option Addr) (n cap : Nat) (l : List (Int × Int)) : Prop := n = l.length ∧ Vw w a n cap 2 (Rgs l)
theorem Rv.get {w : World} {a : Option Addr} {n cap : Nat} {l : List (Int × Int)} (h : Rv w a n cap l) (hn : 0 < n) :
  ∃ b off, a = some ⟨b, off, none⟩ ∧ b < w.heap.size ∧ ∀ i (hi : i < l.length), w.cell? ⟨b, off + i * 2, none⟩ = some (.int .u64 l[i].1) ∧ w.cell? ⟨b, off + i * 2 + 1, none⟩ = some (.int .u64 l[i].2) := by
 rcases h.2.at_ with h0 | ⟨b, off, ha, hb, hc⟩
 ·have h1 := Rgs_length l
  rw [h0] at h1
  have := h.1
  simp at h1
  omega
 ·refine ⟨b, off, ha, hb, fun i hi => ?_⟩
  obtain ⟨g0, g1⟩ := Rgs_get l i hi
  exact ⟨hc _ _ g0, by have := hc _ _ g1; rwa [← Nat.add_assoc] at this⟩
theorem Rv.keep {w w' : World} {S : Nat → Prop} {a : Option Addr} {n cap : Nat} {l : List (Int × Int)} (h : Rv w a n cap l) (k : Keeps S w w') (hs : ∀ b, a.map (·.block) = some b → ¬ S b) : Rv w' a n cap l := ⟨h.1, h.2.keep k hs⟩
theorem Rv.nil (w : World) : Rv w none 0 0 [] := ⟨rfl, Vw.nil w 2⟩
/-- A frame's bytes and ranges are there. -/
structure Qin (w : World) (f : Qf) : Prop where
 b : By w f.a f.n f.cap f.c.xs
 r : Rv w f.ra f.rn f.rc f.c.rs
 wf : f.c.wf
theorem Qin.keep {w w' : World} {S : Nat → Prop} {f : Qf} (h : Qin w f) (k : Keeps S w w') (h1 : ∀ b, f.a.map (·.block) = some b → ¬ S b) (h2 : ∀ b, f.ra.map (·.block) = some b → ¬ S b) : Qin w' f := ⟨h.b.keep k h1, h.r.keep k h2, h.wf⟩

end Go.Proofs.Ytgfkgmmigbpciaa

/- The writer of the package qframe: must, flag, end, nums, text. -/
namespace Go.Proofs.Ytgfkgmmigbpciaa
set_option linter.unusedSimpArgs false
set_option linter.unusedVariables false
open Go.RowKit Go.Deep

def stopV : Value := .iface 82 (.agg #[])
theorem must_ok (w : World) : Calls Try.prog 27 #[.bool true] w fun e w' => e = .returned (.tuple #[]) ∧ w = w' := by
 go_enter Try.func27, Try.ntmps27
 go_wp2_with fail
 go_end0
 exact ⟨rfl, rfl⟩
theorem must_no (w : World) : Calls Try.prog 27 #[.bool false] w fun e w' => e = .panicked [{ v := stopV, recovered := false }] ∧ w = w' := by
 go_enter Try.func27, Try.ntmps27
 go_wp2_with fail
 exact ⟨rfl, rfl, rfl⟩

theorem flag_any (t : Int) (b : Bool) (w : World) (h0 : 0 ≤ t) (h1 : t ≤ 1000) : Calls Try.prog 57 #[.int .u64 t, .bool b] w fun e w' => e = .returned (.int .u64 (t + b2i b)) ∧ w = w' := by
 cases b with
 | false =>
  go_enter Try.func57, Try.ntmps57
  go_wp2_with fail
  go_returns
  exact ⟨by unfold b2i; simp, rfl⟩
 | true =>
  go_enter Try.func57, Try.ntmps57
  go_wp2_with fail
  go_returns
  exact ⟨by unfold b2i; simp, rfl⟩

/-- end answers, or it panics. -/
def EndP (ok : Bool) (w : World) (e : Ending) (w' : World) : Prop := (if ok then e = .returned (.tuple #[]) else e = .panicked [{ v := stopV, recovered := false }]) ∧ w = w'
theorem end_any (off : Int) (n : Nat) (w : World) (h0 : 0 ≤ off) (h1 : off ≤ 18446744073709551615) (hn : n ≤ 1000000) : Calls Try.prog 39 #[.int .u64 off, .int .i64 (n : Int)] w (EndP (endB off n) w) := by
 have HE : Hid (endB off n = (decide (off ≤ 4611686018427387903) && decide ((n : Int) ≤ 4611686018427387903 - off))) := Lib.hid rfl
 by_cases ho : off ≤ 4611686018427387903
 ·by_cases hq : (n : Int) ≤ 4611686018427387903 - off
  ·have hd : decide (off ≤ 4611686018427387903) = true := decide_eq_true ho
   have hd2 : decide ((n : Int) ≤ 4611686018427387903 - off) = true := decide_eq_true hq
   have HR : Hid (endB off n = true) := Lib.hid (by rw [HE.out, hd, hd2]; rfl)
   go_enter Try.func39, Try.ntmps39
   go_wp2_with fail
   refine (must_ok w).mono ?_
   rintro e w' ⟨rfl, rfl⟩
   go_wp2_with fail
   go_end0
   exact ⟨by rw [HR.out]; rfl, rfl⟩
  ·have hd : decide (off ≤ 4611686018427387903) = true := decide_eq_true ho
   have hd2 : decide ((n : Int) ≤ 4611686018427387903 - off) = false := decide_eq_false hq
   have HR : Hid (endB off n = false) := Lib.hid (by rw [HE.out, hd, hd2]; rfl)
   go_enter Try.func39, Try.ntmps39
   go_wp2_with fail
   refine (must_no w).mono ?_
   rintro e w' ⟨rfl, rfl⟩
   go_wp2_with fail
   exact ⟨rfl, by rw [HR.out]; rfl, rfl⟩
 ·have hd : decide (off ≤ 4611686018427387903) = false := decide_eq_false ho
  have HR : Hid (endB off n = false) := Lib.hid (by rw [HE.out, hd]; rfl)
  go_enter Try.func39, Try.ntmps39
  go_wp2_with fail
  refine (must_no w).mono ?_
  rintro e w' ⟨rfl, rfl⟩
  go_wp2_with fail
  exact ⟨rfl, by rw [HR.out]; rfl, rfl⟩

/-- A writer in memory. -/
structure Wr (B : Nat) (w : World) (wb : Nat) (a : Option Addr) (n c : Nat) (xs : List UInt8) : Prop where
 k : Blk w wb #[.slice a n c] 61
 o : Bo B w a n c xs
 ne : ∀ b, a.map (·.block) = some b → b ≠ wb
 le : B ≤ wb
/-- What its functions may turn. -/
def wrS (B wb : Nat) (a : Option Addr) (k : Nat) : Prop := k = wb ∨ mine B a k
theorem Wr.keep {B : Nat} {w w' : World} {wb : Nat} {a : Option Addr} {n c : Nat} {xs : List UInt8} {S : Nat → Prop} (h : Wr B w wb a n c xs) (k : Keeps S w w') (h1 : ¬ S wb) (h2 : ∀ b, a.map (·.block) = some b → ¬ S b) : Wr B w' wb a n c xs :=
 ⟨k.blk h.k h1, h.o.keep k h2, h.ne, h.le⟩
theorem Wr.same {B : Nat} {w w' : World} {wb : Nat} {a : Option Addr} {n c : Nat} {xs : List UInt8} (h : Wr B w wb a n c xs) (k : Keeps (fun _ => False) w w') : Wr B w' wb a n c xs := h.keep k (fun h => h) (fun _ _ h => h)
/-- What a function of the writer has done: more bytes, or it panicked. -/
def WrP (B wb : Nat) (a : Option Addr) (r : Option (List UInt8)) (w : World) (e : Ending) (w' : World) : Prop :=
 Keeps (wrS B wb a) w w' ∧ match r with
  | some ys => e = .returned (.tuple #[]) ∧ ∃ a' n' c', Wr B w' wb a' n' c' ys ∧ Near B w a a'
  | none => e = .panicked [{ v := stopV, recovered := false }]
theorem wrS_below {B wb : Nat} {a : Option Addr} {w0 w w' : World} (h : Keeps (wrS B wb a) w w') (hb : Below B w0 w) (hB : B ≤ w.heap.size) (hw : B ≤ wb) : Below B w0 w' :=
 Keeps.below hb h hB (fun k hk => by rcases hk with rfl | hk; exact hw; exact hk.1)
theorem below_no {w w' : World} (h : Below w.heap.size w w') : Keeps (fun _ => False) w w' := (Below.keeps h).mono (fun k h1 h2 => by omega)
theorem Keeps.to {S : Nat → Prop} {w w' : World} (h : Keeps (fun _ => False) w w') : Keeps S w w' := h.mono (fun _ _ f => False.elim f)
theorem Keeps.trans2 {S S2 : Nat → Prop} {a b c : World} (h : Keeps S a b) (k : Keeps S2 b c) (hs : ∀ i, i < a.heap.size → S2 i → S i) : Keeps S a c :=
 ⟨k.os.trans h.os, k.tape.trans h.tape, k.output.trans h.output, Nat.le_trans h.size k.size, fun i hi hn => (k.block i (Nat.lt_of_lt_of_le hi h.size) (fun h2 => hn (hs i hi h2))).trans (h.block i hi hn)⟩
/-- One after another. -/
theorem wrS_trans {B wb : Nat} {a a1 : Option Addr} {w0 w1 w2 : World} (h : Keeps (wrS B wb a) w0 w1) (hn : Near B w0 a a1) (k : Keeps (wrS B wb a1) w1 w2) : Keeps (wrS B wb a) w0 w2 :=
 Keeps.trans2 h k (fun b hb hS => by
  rcases hS with rfl | ⟨h1, h2⟩
  ·exact .inl rfl
  ·rcases hn b h2 with rfl | ⟨h3, _⟩
   ·exact .inr ⟨h1, h2⟩
   ·omega)


/-- Numbers written behind bytes. -/
def numsO (xs : List UInt8) (vs : List Int) : Option (List UInt8) := if varsOK vs then some (xs ++ varsE vs) else none
theorem numsO_yes {xs : List UInt8} {vs : List Int} (h : varsOK vs = true) : numsO xs vs = some (xs ++ varsE vs) := by unfold numsO; rw [if_pos h]
theorem numsO_no {xs : List UInt8} {vs : List Int} (h : varsOK vs = false) : numsO xs vs = none := by unfold numsO; rw [if_neg (by rw [h]; simp)]

set_option maxHeartbeats 1600000 in
theorem nums_any (B wb : Nat) (a : Option Addr) (n c : Nat) (xs : List UInt8) (va : Option Addr) (vn vc : Nat) (vs : List Int) (w : World) (hw : Wr B w wb a n c xs) (hv : Uv w va vn vc vs) (hn : n ≤ 1000000000) (hvn : vn ≤ 1000000000) (hB : B ≤ w.heap.size) :
  Calls Try.prog 37 #[.pointer (some ⟨wb, 0, none⟩), .slice va vn vc] w (WrP B wb a (numsO xs vs) w) := by
 have HW := Lib.hid hw
 have HV := Lib.hid hv
 have c0 : w.cell? ⟨wb, 0, none⟩ = some (.slice a n c) := hw.k.cell 0
 clear hw hv
 go_enter Try.func37, Try.ntmps37
 go_wp2_with fail
 refine (var_any a n c xs va vn vc vs w HW.out.o.by HV.out hn hvn).mono ?_
 rintro e w1 ⟨a1, n1, c1, rfl, ho1, hk1⟩
 have HW1 := Lib.hid (HW.out.same (below_no hk1))
 have HO1 := Lib.hid ho1
 have HK1 := Lib.hid hk1
 clear ho1 hk1 c0
 by_cases hok : varsOK vs = true
 ·have HOK := Lib.hid hok
  have he : varsErr vs = 0 := by unfold varsErr; rw [if_pos hok]
  have hx : Hid (varsR xs vs = xs ++ varsE vs) := Lib.hid (by unfold varsR; rw [if_pos hok])
  rw [he]
  clear he hok
  go_wp2_with fail
  refine (must_ok w1).mono ?_
  rintro e w' ⟨rfl, rfl⟩
  have d1 : w1.cell? ⟨wb, 0, none⟩ = some (.slice a n c) := HW1.out.k.cell 0
  have y1 : w1.frozen? ⟨wb, 0, none⟩ = false := HW1.out.k.free 0
  go_wp2_with fail
  go_end0
  refine ⟨(Keeps.to (below_no HK1.out)).setCell (fun _ => .inl rfl) _, ?_⟩
  rw [numsO_yes HOK.out]
  refine ⟨rfl, a1, n1, c1, ⟨(HW1.out.k.set 0 _).as rfl, ?_, fun b hb => ?_, HW.out.le⟩, fun k hk => ?_⟩
  ·have h := HO1.out.keep ((Keeps.refl (fun k => k = wb) w1).put 0 (.slice a1 n1 c1)) (fun b hb e => by have := (HO1.out.ge b hb).1; have := HW.out.k.lt; omega)
   rw [hx.out] at h
   exact h.mono hB
  ·have := (HO1.out.ge b hb).1
   have := HW.out.k.lt
   omega
  ·exact .inr ⟨(HO1.out.ge k hk).1, Nat.le_trans hB (HO1.out.ge k hk).1⟩
 ·have hok' : varsOK vs = false := by simpa using hok
  have HOK := Lib.hid hok'
  have he : varsErr vs = 21 := by unfold varsErr; rw [if_neg hok]
  rw [he]
  clear he hok hok'
  go_wp2_with fail
  refine (must_no w1).mono ?_
  rintro e w' ⟨rfl, rfl⟩
  go_wp2_with fail
  refine ⟨rfl, Keeps.to (below_no HK1.out), ?_⟩
  rw [numsO_no HOK.out]


/-- append outside of a drawn region, with where it lies. -/
theorem wpList_own2 (w : World) {ops : Array Oper} {rest : List Oper} {o : Oper} {ac : Act} {Q : Exit → Act → World → Prop} (hg : o.guard = none) (s x : Operand)
  (hop : o.op = Op.call { callee := Callee.builtin Builtin.append, args := #[s, x], argTypes := #[22, 22] }) (base : Nat)
  (a : Option Addr) (n cap : Nat) (xs : List UInt8) (hs : ac.eval s = .slice a n cap) (hd : Bo base w a n cap xs) (a1 : Option Addr) (m c1 : Nat) (ys : List UInt8) (hx : ac.eval x = .slice a1 m c1) (hy : By w a1 m c1 ys)
  (b1 : n + m ≤ 140737488355328) (hb : base ≤ w.heap.size)
  (hK : ∀ a' cap' w', Bo base w' a' (n + m) cap' (xs ++ ys) → Keeps (mine base a) w w' → Near base w a a' → wpList Try.prog ops Q rest (ac.put o.dst (.slice a' (n + m) cap')) w') : wpList Try.prog ops Q (o :: rest) ac w := by
 obtain ⟨inf, hi, hz, hs1, hs2⟩ := info_parts info8
 have hm : m = ys.length := hy.1
 refine wpList_app w hg s x 22 22 hop base 5 inf _ 1 1 Try.underlying22 hi hz hs1 hs2 rfl a n cap (Bs xs) hs (.inl hd.2) (.slice a1 m c1) hx m (Bs ys) (hy.2.src Try.underlying22 (Bs_one ys)) (by simp only [maxLen]; omega) (by omega) hb ?_
 intro a' cap' w' _ hk hn h1 h2
 exact hK a' cap' w' (own_app hd hm h1 h2) hk hn
/-- The writer's bytes are laid anew. -/
theorem Wr.app {B wb n1 c1 n2 c2 : Nat} {w1 w2 : World} {a1 a2 : Option Addr} {xs zs : List UInt8} (h : Wr B w1 wb a1 n1 c1 xs) (ho : Bo B w2 a2 n2 c2 zs) (hk : Keeps (mine B a1) w1 w2) (hn : Near B w1 a1 a2) :
  Wr B (w2.setCell ⟨wb, 0, none⟩ (.slice a2 n2 c2)) wb a2 n2 c2 zs ∧ Keeps (wrS B wb a1) w1 (w2.setCell ⟨wb, 0, none⟩ (.slice a2 n2 c2)) := by
 have hne : ∀ b, a2.map (·.block) = some b → b ≠ wb := fun b hb => by
  rcases hn b hb with rfl | ⟨h1, _⟩
  ·exact h.ne b hb
  ·have := h.k.lt; omega
 exact ⟨⟨((hk.blk h.k (fun e => h.ne wb e.2 rfl)).set 0 _).as rfl, ho.keep ((Keeps.refl (fun k => k = wb) w2).put 0 _) (fun b hb e => hne b hb e), hne, h.le⟩, Keeps.setCell (S := wrS B wb a1) (p := ⟨wb, 0, none⟩) (hk.mono (fun k _ e => Or.inr e)) (fun _ => .inl rfl) _⟩
theorem wrS_near {B wb : Nat} {a a1 a2 : Option Addr} {w0 w1 : World} (h : Near B w0 a a1) (hk : Keeps (wrS B wb a) w0 w1) (h2 : Near B w1 a1 a2) : Near B w0 a a2 := h.step hk h2

set_option maxHeartbeats 1600000 in
theorem text_any (B wb : Nat) (a : Option Addr) (n c : Nat) (xs : List UInt8) (a8 : Option Addr) (n8 c8 : Nat) (ys : List UInt8) (w : World) (hw : Wr B w wb a n c xs) (hy : ∀ w', Below B w w' → By w' a8 n8 c8 ys) (hn : n ≤ 100000000) (hn8 : n8 ≤ 1000000) (hB : B ≤ w.heap.size) :
  Calls Try.prog 40 #[.pointer (some ⟨wb, 0, none⟩), .slice a8 n8 c8] w (WrP B wb a (some (xs ++ (varsE [(n8 : Int)] ++ ys))) w) := by
 have HW := Lib.hid hw
 have HY := Lib.hid hy
 have HK0 : Hid (Keeps (fun _ => False) w (w.alloc (.cells #[.int .u64 (n8 : Int)] 29 (0, 0)))) := (Keeps.refl _ w).alloc _
 have HU := Lib.hid (Uv.one w 29 (n8 : Int) (by omega) (by omega))
 clear hw hy
 go_enter Try.func40, Try.ntmps40
 go_wp2_with fail
 refine (nums_any B wb a n c xs _ 1 1 [(n8 : Int)] _ (HW.out.same HK0.out) HU.out (by omega) (by omega) (Nat.le_trans hB HK0.out.size)).mono ?_
 rintro e w1 ⟨hk1, hr1⟩
 rw [numsO_yes (varsOK_len n8 hn8)] at hr1
 obtain ⟨rfl, a1, n1, c1, hw1, hn1⟩ := hr1
 have HK1 := Lib.hid (HK0.out.to.trans hk1)
 have HN1 : Hid (Near B w a a1) := fun k hk => by
  rcases hn1 k hk with h | ⟨h1, h2⟩
  ·exact .inl h
  ·exact .inr ⟨Nat.le_trans HK0.out.size h1, h2⟩
 have HW1 := Lib.hid hw1
 have HB1 : Hid (Below B w w1) := Lib.hid (wrS_below HK1.out (Below.refl B w) hB HW.out.le)
 have HY1 := Lib.hid (HY.out w1 HB1.out)
 have hs1 : w.heap.size ≤ w1.heap.size := HK1.out.size
 have hlen1 : n1 ≤ n + 16 := by
  have h1 := hw1.o.1
  have h2 := HW.out.o.1
  have h3 := varsE_two (n8 : Int) 0
  have h4 : varsE [(n8 : Int), 0] = varsE [(n8 : Int)] ++ varsE [0] := by simp [varsE]
  rw [h4] at h3
  simp only [List.length_append] at h1 h3
  omega
 clear hk1 hw1 hn1
 have d1 : w1.cell? ⟨wb, 0, none⟩ = some (.slice a1 n1 c1) := HW1.out.k.cell 0
 go_wp2_with (at_builtin; refine halt ?_)
 refine Halted.go (wpList_own2 w1 rfl _ _ rfl B a1 n1 c1 (xs ++ varsE [(n8 : Int)]) rfl HW1.out.o a8 n8 c8 ys rfl HY1.out (by omega) (by omega) ?_)
 intro a2 c2 w2 ho2 hk2 hn2
 have HA := Lib.hid (HW1.out.app ho2 hk2 hn2)
 have HN2 := Lib.hid (wrS_near HN1.out HK1.out hn2)
 have hw2 := hk2.blk HW1.out.k (fun h => HW1.out.ne wb h.2 rfl)
 have d2 : w2.cell? ⟨wb, 0, none⟩ = some (.slice a1 n1 c1) := hw2.cell 0
 have y2 : w2.frozen? ⟨wb, 0, none⟩ = false := hw2.free 0
 clear ho2 hk2 hn2 hw2 d1
 go_wp2_with fail
 go_end0
 refine ⟨wrS_trans HK1.out HN1.out HA.out.2, rfl, a2, n1 + n8, c2, ?_, HN2.out⟩
 rw [← List.append_assoc]
 exact HA.out.1

end Go.Proofs.Ytgfkgmmigbpciaa

/- The writer of the package qframe: stream. -/
namespace Go.Proofs.Ytgfkgmmigbpciaa
set_option linter.unusedSimpArgs false
set_option linter.unusedVariables false
open Go.RowKit Go.Deep

theorem calls_named {P : Program} {f : FuncId} {args : Array Value} {w : World} {Q : Ending → World → Prop} (h : ∀ w' : World, w = w' → Calls P f args w' Q) : Calls P f args w Q := h w rfl
theorem wp_named {P : Program} {c : Code} {Q : Exit → Act → World → Prop} {a : Act} {w : World} (h : ∀ w' : World, w = w' → Code.wp P c Q a w') : Code.wp P c Q a w := h w rfl

/-- A frame written behind bytes. -/
def encO (xs : List UInt8) (c : Qc) : Option (List UInt8) := match encQ c with
 | some ys => some (xs ++ ys)
 | none => none
def thenO (r : Option (List UInt8)) (ys : List UInt8) : Option (List UInt8) := match r with
 | some zs => some (zs ++ ys)
 | none => none
theorem encO_none {xs : List UInt8} {c : Qc} (h : encQ c = none) : encO xs c = none := by unfold encO; rw [h]
theorem encO_plan {xs : List UInt8} {c : Qc} {l : List Int} {tl : List UInt8} (h : c.t ≠ 0) (hp : planQ c = some (l, tl)) : encO xs c = thenO (numsO xs l) tl := by
 unfold encO
 cases hv : varsOK l with
 | true => rw [encQ_some h hp hv, numsO_yes hv]; simp [thenO]
 | false => rw [encQ_bad h hp hv, numsO_no hv]; rfl
theorem encO_text {xs : List UInt8} {c : Qc} {l l' : List Int} {n : Nat} {tl : List UInt8} (h : c.t ≠ 0) (hp : planQ c = some (l', tl)) (hl : l' = l ++ [(n : Int)]) (hn : n ≤ 1000000) : encO xs c = thenO (numsO xs l) (varsE [(n : Int)] ++ tl) := by
 subst hl
 rw [encO_plan h hp]
 cases hv : varsOK l with
 | true => rw [numsO_yes (by rw [varsOK_append, hv, varsOK_len n hn]; rfl), numsO_yes hv, varsE_append]; simp [thenO]
 | false => rw [numsO_no (by rw [varsOK_append, hv]; rfl), numsO_no hv]; rfl
theorem encO_no {xs : List UInt8} {c : Qc} (h : c.t ≠ 0) (hp : planQ c = none) : encO xs c = none := encO_none (encQ_none h hp)

theorem Uv.three (w : World) (t : TypeId) (u v x : Int) (h0 : inU u) (h1 : inU v) (h2 : inU x) : Uv (w.alloc (.cells #[.int .u64 u, .int .u64 v, .int .u64 x] t (0, 0))) (some ⟨w.heap.size, 0, none⟩) 3 3 [u, v, x] :=
 ⟨rfl, Vw.new w [.int .u64 u, .int .u64 v, .int .u64 x] t (by simp [maxLen]), fun y hy => by simp at hy; rcases hy with rfl | rfl | rfl; exact h0; exact h1; exact h2⟩
theorem Uv.four (w : World) (t : TypeId) (u v x y : Int) (h0 : inU u) (h1 : inU v) (h2 : inU x) (h3 : inU y) : Uv (w.alloc (.cells #[.int .u64 u, .int .u64 v, .int .u64 x, .int .u64 y] t (0, 0))) (some ⟨w.heap.size, 0, none⟩) 4 4 [u, v, x, y] :=
 ⟨rfl, Vw.new w [.int .u64 u, .int .u64 v, .int .u64 x, .int .u64 y] t (by simp [maxLen]), fun z hz => by simp at hz; rcases hz with rfl | rfl | rfl | rfl; exact h0; exact h1; exact h2; exact h3⟩
theorem Uv.two' (w : World) (t : TypeId) (u v : Int) (h0 : inU u) (h1 : inU v) : Uv (w.alloc (.cells #[.int .u64 u, .int .u64 v] t (0, 0))) (some ⟨w.heap.size, 0, none⟩) 2 2 [u, v] := Uv.two w t u v h0.1 h0.2 h1.1 h1.2
theorem Uv.one' (w : World) (t : TypeId) (u : Int) (h0 : inU u) : Uv (w.alloc (.cells #[.int .u64 u] t (0, 0))) (some ⟨w.heap.size, 0, none⟩) 1 1 [u] := Uv.one w t u h0.1 h0.2

/-- Numbers that a call has laid are written. -/
theorem nums_new (B wb : Nat) (a : Option Addr) (n c : Nat) (xs : List UInt8) (cs : Array Value) (vn : Nat) (vs : List Int) (w : World) (hw : Wr B w wb a n c xs) (hv : Uv (w.alloc (.cells cs 29 (0, 0))) (some ⟨w.heap.size, 0, none⟩) vn vn vs) (hn : n ≤ 1000000000) (hvn : vn ≤ 1000000000) (hB : B ≤ w.heap.size) :
  Calls Try.prog 37 #[.pointer (some ⟨wb, 0, none⟩), .slice (some ⟨w.heap.size, 0, none⟩) vn vn] (w.alloc (.cells cs 29 (0, 0))) (WrP B wb a (numsO xs vs) w) := by
 have hk0 : Keeps (fun _ => False) w (w.alloc (.cells cs 29 (0, 0))) := (Keeps.refl _ w).alloc _
 refine (nums_any B wb a n c xs _ vn vn vs _ (hw.same hk0) hv hn hvn (Nat.le_trans hB hk0.size)).mono ?_
 rintro e w' ⟨h1, h2⟩
 refine ⟨hk0.to.trans h1, ?_⟩
 cases hr : numsO xs vs with
 | none => rw [hr] at h2; exact h2
 | some ys =>
  rw [hr] at h2
  obtain ⟨he, a', n', c', h3, h4⟩ := h2
  exact ⟨he, a', n', c', h3, fun k hk => by
   rcases h4 k hk with h | ⟨h5, h6⟩
   ·exact .inl h
   ·exact .inr ⟨Nat.le_trans hk0.size h5, h6⟩⟩

/-- Text behind what was written: how long it may grow. -/
theorem numsO_len {xs ys : List UInt8} {vs : List Int} (h : numsO xs vs = some ys) : ys.length ≤ xs.length + 8 * vs.length := by
 cases hv : varsOK vs with
 | false => rw [numsO_no hv] at h; cases h
 | true =>
  rw [numsO_yes hv] at h
  cases h
  have h8 : ∀ x, (varE x).length ≤ 8 := fun x => by unfold varE; (repeat' split) <;> simp [bigD_length]
  have hl : ∀ l : List Int, (varsE l).length ≤ 8 * l.length := by
   intro l
   induction l with
   | nil => simp [varsE]
   | cons v l ih =>
    have h1 : varsE (v :: l) = varE v ++ varsE l := by simp [varsE]
    have h2 := h8 v
    rw [h1, List.length_append, List.length_cons]
    omega
  have h3 := hl vs
  rw [List.length_append]
  omega

/-- What a call that comes next does with what was written. -/
theorem WrP.after {B wb : Nat} {a a1 : Option Addr} {r : Option (List UInt8)} {w w1 : World} {e : Ending} {w' : World} (h : WrP B wb a1 r w1 e w') (hk : Keeps (wrS B wb a) w w1) (hn : Near B w a a1) : WrP B wb a r w e w' := by
 obtain ⟨h1, h2⟩ := h
 refine ⟨wrS_trans hk hn h1, ?_⟩
 cases r with
 | none => exact h2
 | some ys =>
  obtain ⟨he, a', n', c', h3, h4⟩ := h2
  exact ⟨he, a', n', c', h3, wrS_near hn hk h4⟩
theorem WrP.panic {B wb : Nat} {a : Option Addr} {w w' : World} (hk : Keeps (wrS B wb a) w w') : WrP B wb a none w (.panicked [{ v := stopV, recovered := false }]) w' := ⟨hk, rfl⟩

theorem Wr.fresh {B : Nat} {w : World} {wb fb : Nat} {a : Option Addr} {n c : Nat} {xs : List UInt8} (h : Wr B w wb a n c xs) (hf : w.heap.size ≤ fb) : ¬ wrS B wb a fb := by
 rintro (rfl | ⟨_, h2⟩)
 ·have := h.k.lt; omega
 ·have := (h.o.ge fb h2).2; omega
theorem Wr.len {B : Nat} {w : World} {wb : Nat} {a : Option Addr} {n c : Nat} {xs : List UInt8} (h : Wr B w wb a n c xs) : n = xs.length := h.o.1
theorem near_to {B : Nat} {w w1 : World} {a a1 : Option Addr} (h : Near B w1 a a1) (hs : w.heap.size ≤ w1.heap.size) : Near B w a a1 := fun k hk => by
 rcases h k hk with h1 | ⟨h1, h2⟩
 ·exact .inl h1
 ·exact .inr ⟨Nat.le_trans hs h1, h2⟩
theorem b2i_bd (b : Bool) : 0 ≤ b2i b ∧ b2i b ≤ 1 := by cases b <;> decide
theorem strT_or (b : Bool) : bits .or .u64 (10 + b2i b) 4 = 14 + b2i b := by cases b <;> decide +kernel
theorem strT_0 {c : Qc} (h : c.off = 0) : strT c = 10 + b2i c.fin := by unfold strT; rw [if_pos h]; omega
theorem strT_1 {c : Qc} (h : c.off ≠ 0) : strT c = 14 + b2i c.fin := by unfold strT; rw [if_neg h]; omega

theorem plan_8 {c : Qc} (h : c.t = 8) : planQ c = (if endB c.off c.xs.length then some ((if c.off = 0 then [strT c, c.id, (c.xs.length : Int)] else [strT c, c.id, c.off, (c.xs.length : Int)]), c.xs) else none) := by unfold planQ; rw [h]; simp
theorem plan_1 {c : Qc} (h : c.t = 1) : planQ c = some ([1], []) := by unfold planQ; rw [h]; simp
theorem plan_30 {c : Qc} (h : c.t = 30) : planQ c = some ([30], []) := by unfold planQ; rw [h]; simp
theorem plan_2 {c : Qc} (h : c.t = 2) : planQ c = (if ackOK c.rs then some (ackL c.delay c.rs, []) else none) := by unfold planQ; rw [h]; simp
theorem plan_4 {c : Qc} (h : c.t = 4) : planQ c = some ([4, c.id, c.code, c.mx], []) := by unfold planQ; rw [h]; simp
theorem plan_5 {c : Qc} (h : c.t = 5) : planQ c = some ([5, c.id, c.code], []) := by unfold planQ; rw [h]; simp
theorem plan_6 {c : Qc} (h : c.t = 6) : planQ c = (if endB c.off c.xs.length then some ([6, c.off, (c.xs.length : Int)], c.xs) else none) := by unfold planQ; rw [h]; simp
theorem plan_7 {c : Qc} (h : c.t = 7) : planQ c = (if 0 < c.xs.length then some ([7, (c.xs.length : Int)], c.xs) else none) := by unfold planQ; rw [h]; simp
theorem plan_16 {c : Qc} (h : c.t = 16) : planQ c = some ([16, c.mx], []) := by unfold planQ; rw [h]; simp
theorem plan_20 {c : Qc} (h : c.t = 20) : planQ c = some ([20, c.mx], []) := by unfold planQ; rw [h]; simp
theorem plan_17 {c : Qc} (h : c.t = 17) : planQ c = some ([17, c.id, c.mx], []) := by unfold planQ; rw [h]; simp
theorem plan_21 {c : Qc} (h : c.t = 21) : planQ c = some ([21, c.id, c.mx], []) := by unfold planQ; rw [h]; simp
theorem plan_18 {c : Qc} (h : c.t = 18) : planQ c = (if c.mx ≤ 1152921504606846976 then some ([18 + b2i c.uni, c.mx], []) else none) := by unfold planQ; rw [h]; simp
theorem plan_22 {c : Qc} (h : c.t = 22) : planQ c = (if c.mx ≤ 1152921504606846976 then some ([22 + b2i c.uni, c.mx], []) else none) := by unfold planQ; rw [h]; simp
theorem plan_24 {c : Qc} (h : c.t = 24) : planQ c = (if c.mx ≤ c.id ∧ 16 < c.xs.length ∧ c.xs.length ≤ 36 then some ([24, c.id, c.mx], byt ((c.xs.length : Int) - 16) :: c.xs) else none) := by unfold planQ; rw [h]; simp
theorem plan_25 {c : Qc} (h : c.t = 25) : planQ c = some ([25, c.id], []) := by unfold planQ; rw [h]; simp
theorem plan_26 {c : Qc} (h : c.t = 26) : planQ c = (if c.xs.length = 8 then some ([26], c.xs) else none) := by unfold planQ; rw [h]; simp
theorem plan_27 {c : Qc} (h : c.t = 27) : planQ c = (if c.xs.length = 8 then some ([27], c.xs) else none) := by unfold planQ; rw [h]; simp
theorem plan_28 {c : Qc} (h : c.t = 28) : planQ c = some ((if c.app then [29, c.code, (c.xs.length : Int)] else [28, c.code, c.off, (c.xs.length : Int)]), c.xs) := by unfold planQ; rw [h]; simp
/-- The types of a frame. -/
def typesQ : List Int := [1, 30, 2, 4, 5, 6, 7, 8, 16, 20, 17, 21, 18, 22, 24, 25, 26, 27, 28]
theorem plan_no {c : Qc} (h : c.t ∉ typesQ) : planQ c = none := by
 unfold typesQ at h
 simp only [List.mem_cons, List.not_mem_nil, or_false, not_or] at h
 obtain ⟨h1, h2, h3, h4, h5, h6, h7, h8, h9, h10, h11, h12, h13, h14, h15, h16, h17, h18, h19⟩ := h
 unfold planQ
 rw [if_neg h1, if_neg h2, if_neg h3, if_neg h4, if_neg h5, if_neg h6, if_neg h7, if_neg h8, if_neg h9, if_neg h10, if_neg h11, if_neg h12, if_neg h13, if_neg h14, if_neg h15, if_neg h16, if_neg h17, if_neg h18, if_neg h19]

section
variable {ops : Array Oper} {Q : Exit → Act → World → Prop} {md : Region.Mode} {S : World → Prop} {z : Nat}
/-- A call that may panic. -/
theorem held_callP {P : Program} {i : Nat} {o : Oper} {fuel : Nat} {listed : Array Bool} {a : Act} {w : World} (f : FuncId) (args : Array Value) (ho : ops[i]? = some o) (hr : Region.ready md ops listed = [i]) (hw : Region.wanted o (yielded ops a.tmps) = true)
  (hrun : (execOp a.eval o).run P w = .ok (.enter f args) w)
  (h : Calls P f args w fun e w' => (∃ v, e = .returned v ∧ S w' ∧ wpAnyH P md ops Q S fuel (listed.setIfInBounds i true) (a.put o.dst v) w') ∨ (∃ c, e = .panicked c ∧ Q (.panic c) a w')) : wpAnyH P md ops Q S (fuel + 1) listed a w := by
 refine wpAnyH_all hr (by simp) (fun j hj => ?_)
 obtain rfl : j = i := by simpa using hj
 refine wpOp_step ho fun K hK => ?_
 rw [if_pos hw]
 unfold Oper.wp
 rw [hrun, Oper.upon_enter]
 refine Calls.mono h ?_
 rintro e w' (⟨v, rfl, h1, h2⟩ | ⟨c, rfl, h1⟩)
 ·exact hK _ _ ⟨h1, h2⟩
 ·exact h1
theorem z_own2 {i : Nat} {o : Oper} {fuel : Nat} {listed : Array Bool} {ac : Act} {w : World} (ho : ops[i]? = some o) (hr : Region.ready md ops listed = [i]) (hw : Region.wanted o (yielded ops ac.tmps) = true)
  (s x : Operand) (hop : o.op = Op.call { callee := Callee.builtin Builtin.append, args := #[s, x], argTypes := #[22, 22] }) (base : Nat)
  (a : Option Addr) (n cap : Nat) (xs : List UInt8) (hs : ac.eval s = .slice a n cap) (hd : Bo base w a n cap xs) (a1 : Option Addr) (m c1 : Nat) (ys : List UInt8) (hx : ac.eval x = .slice a1 m c1) (hy : By w a1 m c1 ys)
  (b1 : n + m ≤ 140737488355328) (hb : base ≤ w.heap.size)
  (hK : ∀ a' cap' w', Bo base w' a' (n + m) cap' (xs ++ ys) → Keeps (mine base a) w w' → Near base w a a' →
    S w' ∧ wpAnyZ Try.prog md ops Q S z fuel (listed.setIfInBounds i true) (ac.put o.dst (.slice a' (n + m) cap')) w') : wpAnyZ Try.prog md ops Q S z (fuel + 1) listed ac w := by
 obtain ⟨inf, hi, hz, hs1, hs2⟩ := info_parts info8
 have hm : m = ys.length := hy.1
 refine z_app ho hr hw s x 22 22 hop base 5 inf _ 1 1 Try.underlying22 hi hz hs1 hs2 rfl a n cap (Bs xs) hs (.inl hd.2) (.slice a1 m c1) hx m (Bs ys) (hy.2.src Try.underlying22 (Bs_one ys)) (by simp only [maxLen]; omega) (by omega) hb ?_
 intro a' cap' w' _ hk hn h1 h2
 exact hK a' cap' w' (own_app hd hm h1 h2) hk hn
theorem z_zero {i : Nat} {o : Oper} {fuel : Nat} {listed : Array Bool} {ac : Act} {w : World} (ho : ops[i]? = some o) (hr : Region.ready md ops listed = [i]) (hw : Region.wanted o (yielded ops ac.tmps) = true)
  (s x : Operand) (hop : o.op = Op.call { callee := Callee.builtin Builtin.append, args := #[s, x], argTypes := #[22, 3] }) (base : Nat)
  (a : Option Addr) (n cap : Nat) (xs : List UInt8) (hs : ac.eval s = .slice a n cap) (hd : Bo base w a n cap xs) (m : Nat) (h0 : 0 < m) (hx : ac.eval x = .int .i64 m)
  (b1 : n + m ≤ 140737488355328) (hb : base ≤ w.heap.size)
  (hK : ∀ a' cap' w', Bo base w' a' (n + m) cap' (xs ++ List.replicate m 0) → Keeps (mine base a) w w' → Near base w a a' →
    S w' ∧ wpAnyZ Try.prog md ops Q S z fuel (listed.setIfInBounds i true) (ac.put o.dst (.slice a' (n + m) cap')) w') : wpAnyZ Try.prog md ops Q S z (fuel + 1) listed ac w := by
 refine z_one ho hr hw fun K hK' => ?_
 obtain ⟨a', cap', w', hrun, r1, r2, r3⟩ := run_app0 w base o.type a n cap xs hd.bd m h0 b1 hb
 have hh := hK a' cap' w' r1 r2 r3
 unfold Oper.wp
 simp [execOp, hop, resolve, invoke, builtin, hs, hx, hrun, Result.andThen]
 exact hK' _ _ (fun _ => hh.1) hh.2
end

end Go.Proofs.Ytgfkgmmigbpciaa
