/- Blocks: what they are; how they lie in memory; frames as arguments. -/
import Derived.Test.YtcfljnlfikkhaaaBlkA
namespace Go.Proofs.Ytcfljnlfikkhaaa
open Go.RowKit Go.Deep

/-- A block's state: what may be, the stream, its end, the bytes, open, whole. -/
structure Bk where
  most : Int
  st : Int
  fin : Bool
  xs : List UInt8
  opn : Bool
  whl : Bool
structure Bk.Ok (s : Bk) : Prop where
  m0 : 0 ≤ s.most
  m1 : s.most ≤ 1000000
  len : s.xs.length ≤ s.most
  no : s.opn = true → s.whl = false
  s0 : 0 ≤ s.st
  s1 : s.st ≤ 4294967295
def bk0 (m : Int) : Bk := ⟨m, 0, false, [], false, false⟩
theorem bk0_ok {m : Int} (h0 : 0 ≤ m) (h1 : m ≤ 1000000) : (bk0 m).Ok := ⟨h0, h1, by simpa [bk0] using h0, by simp [bk0], by simp [bk0], by simp [bk0]⟩

/-- May it come, does it say anything? -/
def Bk.may (s : Bk) (t st : Int) : Bool := if s.opn then t == 9 && st == s.st else t != 9
def Bk.says (s : Bk) (t : Int) : Bool := if s.opn then true else t == 1
def Bk.ys (s : Bk) (t fl : Int) (xs : List UInt8) : List UInt8 := (if s.opn then s.xs else []) ++ payX t fl xs
def Bk.rule (s : Bk) (t fl st : Int) (xs : List UInt8) : Int :=
  if s.may t st = false then 6 else if s.says t = false then 0 else if payQ t fl st xs ≠ 0 then payQ t fl st xs else if s.most < ((s.ys t fl xs).length : Int) then 3 else 0
/-- Does it take it? -/
def Bk.takes (s : Bk) (t fl st : Int) (xs : List UInt8) : Bool := s.may t st && s.says t && decide (payQ t fl st xs = 0) && decide (((s.ys t fl xs).length : Int) ≤ s.most)
def lastB (fl : Int) : Bool := bits .and .u8 fl 4 != 0
def finB (fl : Int) : Bool := bits .and .u8 fl 1 != 0
def Bk.next (s : Bk) (t fl st : Int) (xs : List UInt8) : Bk :=
  { most := s.most, st := if s.opn then s.st else st, fin := if s.opn then s.fin else finB fl, xs := s.ys t fl xs, opn := !lastB fl, whl := lastB fl }
def Bk.add (s : Bk) (t fl st : Int) (xs : List UInt8) : Bk := if s.takes t fl st xs then s.next t fl st xs else s
def Bk.done (s : Bk) (t fl st : Int) (xs : List UInt8) : Bool := s.takes t fl st xs && lastB fl
def Bk.took (s : Bk) : Bk := { s with whl := false }

theorem Bk.add_ok {s : Bk} (h : s.Ok) (t fl st : Int) (xs : List UInt8) (h0 : 0 ≤ st) (h1 : st ≤ 4294967295) : (s.add t fl st xs).Ok := by
  unfold Bk.add
  split
  · rename_i ht
    unfold Bk.takes at ht
    simp only [Bool.and_eq_true, decide_eq_true_eq] at ht
    refine ⟨h.m0, h.m1, ht.2, ?_, ?_, ?_⟩
    · show (!lastB fl) = true → lastB fl = false
      intro e; simpa using e
    · show 0 ≤ (if s.opn then s.st else st); split; exact h.s0; exact h0
    · show (if s.opn then s.st else st) ≤ _; split; exact h.s1; exact h1
  · exact h
theorem Bk.took_ok {s : Bk} (h : s.Ok) : s.took.Ok := ⟨h.m0, h.m1, h.len, fun _ => rfl, h.s0, h.s1⟩

/-- A part in memory. -/
def PtM (base : Nat) (w : World) (v : Value) (s : Bk) : Prop :=
  ∃ p a n cap, v = .pointer (some ⟨p, 0, none⟩) ∧ base ≤ p ∧ p < w.heap.size ∧ Blk w p #[.int .u32 s.st, .slice a n cap, .bool s.fin] 53 ∧ By w a n cap s.xs ∧ ∀ b, a.map (·.block) = some b → base ≤ b ∧ b < w.heap.size
theorem PtM.keep {base : Nat} {w w' : World} {S : Nat → Prop} {v : Value} {s : Bk} (h : PtM base w v s) (k : Keeps S w w') (hs : ∀ b, S b → b < base) : PtM base w' v s := by
  obtain ⟨p, a, n, cap, rfl, h1, h2, h3, h4, h5⟩ := h
  exact ⟨p, a, n, cap, rfl, h1, Nat.lt_of_lt_of_le h2 k.size, k.blk h3 (fun e => by have := hs p e; omega), h4.keep k (fun b hb e => by have := (h5 b hb).1; have := hs b e; omega), fun b hb => ⟨(h5 b hb).1, Nat.lt_of_lt_of_le (h5 b hb).2 k.size⟩⟩
/-- A block of the program in memory. -/
def PkM (base : Nat) (w : World) (b : Nat) (s : Bk) : Prop :=
  b < base ∧ base ≤ w.heap.size ∧ ∃ o u, Blk w b #[.int .i64 s.most, o, u] 44 ∧ (if s.opn then PtM base w o s else o = .pointer none) ∧ (if s.whl then PtM base w u s else u = .pointer none)
/-- A block of the document's in memory. -/
def RkM (base : Nat) (w : World) (b : Nat) (s : Bk) : Prop :=
  b < base ∧ base ≤ w.heap.size ∧ ∃ m a n cap, (if m < 0 then 0 else m) = s.most ∧ -9223372036854775808 ≤ m ∧ Blk w b #[.int .i64 m, .bool s.opn, .int .u32 s.st, .bool s.fin, .slice a n cap, .bool s.whl] 31 ∧ By w a n cap s.xs ∧ ∀ b', a.map (·.block) = some b' → base ≤ b' ∧ b' < w.heap.size
theorem PkM.keep {base : Nat} {w w' : World} {S : Nat → Prop} {b : Nat} {s : Bk} (h : PkM base w b s) (k : Keeps S w w') (hs : ∀ b, S b → b < base) (hb : ¬ S b) : PkM base w' b s := by
  obtain ⟨h1, h2, o, u, h3, h4, h5⟩ := h
  refine ⟨h1, Nat.le_trans h2 k.size, o, u, k.blk h3 hb, ?_, ?_⟩
  · split at h4
    · rw [if_pos (by assumption)]; exact h4.keep k hs
    · rw [if_neg (by assumption)]; exact h4
  · split at h5
    · rw [if_pos (by assumption)]; exact h5.keep k hs
    · rw [if_neg (by assumption)]; exact h5
theorem RkM.keep {base : Nat} {w w' : World} {S : Nat → Prop} {b : Nat} {s : Bk} (h : RkM base w b s) (k : Keeps S w w') (hs : ∀ b, S b → b < base) (hb : ¬ S b) : RkM base w' b s := by
  obtain ⟨h1, h2, m, a, n, cap, h3, h3', h4, h5, h6⟩ := h
  exact ⟨h1, Nat.le_trans h2 k.size, m, a, n, cap, h3, h3', k.blk h4 hb, h5.keep k (fun b hb e => by have := (h6 b hb).1; have := hs b e; omega), fun b hb => ⟨(h6 b hb).1, Nat.lt_of_lt_of_le (h6 b hb).2 k.size⟩⟩

end Go.Proofs.Ytcfljnlfikkhaaa
