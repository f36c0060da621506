/- What an argument that can be read as data looks like in memory: numbers, bools, strings, slices of these and of structs of one-cell fields. No program in sight. -/
import Derived.Test.YtgfkgmmigbpciaaW
import Derived.Deep.Slices
import Derived.Deep.Fields
import Derived.ProofKit
namespace Go.Proofs.Ytgfkgmmigbpciaa
set_option linter.unusedSimpArgs false
set_option linter.unusedVariables false
open Go.RowKit Go.Deep Go.ChangeShapes Go.WideShapes

theorem wf_u64_iff {n : Int} (h : (Lit.int .u64 n).wf = true) : 0 ≤ n ∧ n ≤ 18446744073709551615 := by
 simp [Lit.wf, IntKind.min, IntKind.max, IntKind.signed, IntKind.bits] at h
 omega
theorem wf_i64_iff {n : Int} (h : (Lit.int .i64 n).wf = true) : -9223372036854775808 ≤ n ∧ n ≤ 9223372036854775807 := by
 simp [Lit.wf, IntKind.min, IntKind.max, IntKind.signed, IntKind.bits] at h
 omega
theorem wf_u16_iff {n : Int} (h : (Lit.int .u16 n).wf = true) : 0 ≤ n ∧ n ≤ 65535 := by
 simp [Lit.wf, IntKind.min, IntKind.max, IntKind.signed, IntKind.bits] at h
 omega
theorem wf_u8_iff {n : Int} (h : (Lit.int .u8 n).wf = true) : 0 ≤ n ∧ n ≤ 255 := by
 simp [Lit.wf, IntKind.min, IntKind.max, IntKind.signed, IntKind.bits] at h
 omega
/-- The one cell v reads as data of type t in the world w. -/
def Rd (P : Program) (w : World) (t : TypeId) (v : Value) : Prop :=
 ∃ (H : Type) (enc : TypeId × Value → H) (n : Nat) (y : DataW H × List MemPlace), DataW.trod enc P w 0 (fun _ => true) true n t [v] = some y

section
variable {P : Program} {w : World} {t e : TypeId} {v : Value}

theorem Rd.int {k : IntKind} (h : Rd P w t v) (ht : P.underlying t = some (.int k)) : ∃ n, v = .int k n ∧ (Lit.int k n).wf = true := by
 obtain ⟨H, enc, n, y, h⟩ := h
 obtain ⟨m, hv, _, hw⟩ := DataW.trod_int ht h
 exact ⟨m, by simpa using hv, hw⟩

theorem Rd.bool (h : Rd P w t v) (ht : P.underlying t = some .bool) : ∃ b, v = .bool b := by
 obtain ⟨H, enc, n, y, h⟩ := h
 obtain ⟨m, hv, _⟩ := DataW.trod_bool ht h
 exact ⟨m, by simpa using hv⟩

theorem Rd.str (h : Rd P w t v) (ht : P.underlying t = some .string) : ∃ s : ByteArray, v = .string s ∧ s.size ≤ maxLen := by
 obtain ⟨H, enc, n, y, h⟩ := h
 obtain ⟨m, hv, _, hs⟩ := DataW.trod_string ht h
 exact ⟨m, by simpa using hv, hs⟩

/-- A row of n elements of k cells each, from the address on: cell j of element i holds V i j. -/
def Seen (w : World) (a : Option Addr) (n k : Nat) (V : Nat → Nat → Value) : Prop :=
 n = 0 ∨ ∃ b off, a = some ⟨b, off, none⟩ ∧ b < w.heap.size ∧ ∀ i j, i < n → j < k → w.cell? ⟨b, off + i * k + j, none⟩ = some (V i j)

theorem Seen.keep {w w' : World} {B : Nat} {a : Option Addr} {n k : Nat} {V : Nat → Nat → Value} (h : Seen w a n k V) (hb : Below B w w') (hB : w.heap.size ≤ B) : Seen w' a n k V := by
 rcases h with h | ⟨b, off, ha, hlt, hc⟩
 ·exact .inl h
 ·exact .inr ⟨b, off, ha, Nat.lt_of_lt_of_le hlt hb.size, fun i j hi hj => by rw [hb.cell (p := ⟨b, off + i * k + j, none⟩) (by show b < B; omega)]; exact hc i j hi hj⟩

theorem Rd.slice {fs : Array Field} (h : Rd P w t v) (ht : P.underlying t = some (.slice e)) (he : P.underlying e = some (.struct fs)) (hone : oneCellFields P fs = true) (hC : P.cellsOf e = fs.size) (hpos : 0 < fs.size) :
  ∃ (a : Option Addr) (len cap : Nat) (V : Nat → Nat → Value), v = .slice a len cap ∧ len ≤ cap ∧ cap ≤ maxLen ∧ Seen w a cap fs.size V ∧ ∀ i j f, i < cap → fs[j]? = some f → Rd P w f.type (V i j) := by
 obtain ⟨H, enc, n, y, h⟩ := h
 rcases open_slice ht h with ⟨h0, _⟩ | ⟨a, len, cap, m, n', D, Pl, hcs, _, hl, hm, hmm, _, hi⟩
 ·refine ⟨none, 0, 0, fun _ _ => v, by simpa using h0, Nat.le_refl _, Nat.zero_le _, .inl rfl, fun i j f hi => by omega⟩
 ·simp only [if_true] at hmm
  subst hmm
  have each : ∀ i, i < m → ∃ F : Nat → Value, ∀ j f, fs[j]? = some f → w.cell? (a.add (i * fs.size + j)) = some (F j) ∧ Rd P w f.type (F j) := by
   intro i him
   obtain ⟨cs', hc, ht'⟩ := hi i him
   rw [hC] at hc
   obtain ⟨ys, n'', _, _, _, hyl, hf⟩ := DataW.trod_struct he ht'
   obtain ⟨_, hcl, hat⟩ := World.cells?_some hc
   refine ⟨fun j => cs'.getD j v, fun j f hj => ?_⟩
   obtain ⟨ho, hk⟩ := hone_of hone j f hj
   have hjl : j < fs.size := (Array.getElem?_eq_some_iff.1 hj).1
   have hjc : j < cs'.length := by omega
   have e1 : cs'[j]? = some (cs'.getD j v) := by simp [List.getD, List.getElem?_eq_getElem hjc]
   have h1 := hf j f hj
   rw [ho, hk] at h1
   have e2 : (cs'.drop j).take 1 = [cs'.getD j v] := by
    rw [List.drop_eq_getElem_cons hjc, List.take_succ_cons, List.take_zero]
    simp [List.getD, List.getElem?_eq_getElem hjc]
   rw [e2] at h1
   refine ⟨?_, H, enc, n'', ys[j]'(by omega), ?_⟩
   ·rw [← add_add, hat j hjl, e1]
   ·rw [h1]; exact List.getElem?_eq_getElem (by omega)
  have : Inhabited Value := ⟨v⟩
  obtain ⟨V, hV⟩ := choose_lt (α := Nat → Value) each
  refine ⟨some a, len, m, V, by simpa using hcs, hl, hm, ?_, fun i j f hi hj => (hV i hi j f hj).2⟩
  by_cases h0 : m = 0
  ·exact .inl h0
  ·obtain ⟨b, off, spot⟩ := a
   have c0 := (hV 0 (by omega) 0 fs[0] (Array.getElem?_eq_getElem hpos)).1
   have hspot : spot = none := by simpa [Addr.add] using World.cell?_spot c0
   subst hspot
   refine .inr ⟨b, off, rfl, ?_, fun i j hi hj => ?_⟩
   ·have := c0
    simp [Addr.add] at this
    unfold World.cell? at this
    split at this
    ·rename_i hh; exact lt_of_block hh
    ·cases this
   ·have := (hV i hi j fs[j] (Array.getElem?_eq_getElem hj)).1
    rwa [add_plain, ← Nat.add_assoc] at this

theorem Rd.row (h : Rd P w t v) (ht : P.underlying t = some (.slice e)) (hC : P.cellsOf e = 1) :
  ∃ (a : Option Addr) (len cap : Nat) (V : Nat → Nat → Value), v = .slice a len cap ∧ len ≤ cap ∧ cap ≤ maxLen ∧ Seen w a cap 1 V ∧ ∀ i, i < cap → Rd P w e (V i 0) := by
 obtain ⟨H, enc, n, y, h⟩ := h
 rcases open_slice1 ht hC h with ⟨h0, _⟩ | ⟨a, len, cap, m, n', V, D, Pl, hcs, _, hl, hm, hmm, _, hi⟩
 ·refine ⟨none, 0, 0, fun _ _ => v, by simpa using h0, Nat.le_refl _, Nat.zero_le _, .inl rfl, fun i hi => by omega⟩
 ·simp only [if_true] at hmm
  subst hmm
  refine ⟨some a, len, m, fun i _ => V i, by simpa using hcs, hl, hm, ?_, fun i him => ⟨H, enc, n', _, (hi i him).2⟩⟩
  by_cases h0 : m = 0
  ·exact .inl h0
  ·obtain ⟨b, off, spot⟩ := a
   have c0 := (hi 0 (by omega)).1
   have hspot : spot = none := by simpa [Addr.add] using World.cell?_spot c0
   subst hspot
   refine .inr ⟨b, off, rfl, ?_, fun i j him hj => ?_⟩
   ·have := c0
    simp [Addr.add] at this
    unfold World.cell? at this
    split at this
    ·rename_i hh; exact lt_of_block hh
    ·cases this
   ·have := (hi i him).1
    rw [add_plain] at this
    obtain rfl : j = 0 := by omega
    simpa using this

end

/-- An argument as the statement gives it. -/
def Arg (P : Program) (w : World) (t : TypeId) (v : Value) : Prop :=
 (∃ base, Value.okWide P w .any base t v) ∧ ∃ (H : Type) (enc : TypeId × Value → H) (d : DataW H) (p : List MemPlace), DataW.Trod enc P w 0 (fun _ => true) true t v d p

theorem Arg.rd_slice {P : Program} {w : World} {t e : TypeId} {v : Value} (h : Arg P w t v) (ht : P.underlying t = some (.slice e)) : Rd P w t v := by
 obtain ⟨⟨base, hv⟩, H, enc, d, p, n, hn⟩ := h
 obtain ⟨a, len, cap, rfl⟩ := Go.WideShapes.okWide_slice ht hv
 exact ⟨H, enc, n, (d, p), by simpa [Value.cells] using hn⟩

end Go.Proofs.Ytgfkgmmigbpciaa
