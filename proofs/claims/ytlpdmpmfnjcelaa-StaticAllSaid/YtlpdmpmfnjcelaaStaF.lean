/- Rows of fields (a name, a value) in memory; append on them. -/
import Derived.Test.YtlpdmpmfnjcelaaB
namespace Go.Proofs.Ytlpdmpmfnjcelaa
open Go.RowKit Go.Deep Go.ChangeShapes Go.WideShapes

abbrev Fd := List UInt8 × List UInt8
def St (xs : List UInt8) : Value := .string ⟨xs.toArray⟩
def Fs : List Fd → List Value
  | [] => []
  | p :: l => St p.1 :: St p.2 :: Fs l
theorem Fs_length (l : List Fd) : (Fs l).length = l.length * 2 := by induction l with
  | nil => rfl
  | cons f l ih => simp [Fs, ih]; omega
theorem Fs_get (l : List Fd) : ∀ (i : Nat) (hi : i < l.length), (Fs l)[i * 2]? = some (St l[i].1) ∧ (Fs l)[i * 2 + 1]? = some (St l[i].2) := by
  induction l with
  | nil => intro i hi; simp at hi
  | cons f l ih =>
    intro i hi
    cases i with
    | zero => exact ⟨rfl, rfl⟩
    | succ i =>
      have := ih i (by simpa using hi)
      simp only [Fs, show (i + 1) * 2 = i * 2 + 1 + 1 by omega, List.getElem?_cons_succ, List.getElem_cons_succ]
      exact this
theorem Fs_append (l m : List Fd) : Fs l ++ Fs m = Fs (l ++ m) := by induction l with
  | nil => rfl
  | cons f l ih => simp [Fs, ih]
theorem Fs_one (l : List Fd) : ∀ u ∈ Fs l, u.oneCell' = true := by
  induction l with
  | nil => intro u hu; cases hu
  | cons f l ih =>
    intro u hu
    simp only [Fs, List.mem_cons] at hu
    rcases hu with rfl | rfl | hu
    · rfl
    · rfl
    · exact ih u hu

/-- A slice of fields in memory. -/
def Fv (w : World) (a : Option Addr) (n cap : Nat) (l : List Fd) : Prop := n = l.length ∧ Vw w a n cap 2 (Fs l)
theorem Fv.get {w : World} {a : Option Addr} {n cap : Nat} {l : List Fd} (h : Fv w a n cap l) (hn : 0 < n) :
    ∃ b off, a = some ⟨b, off, none⟩ ∧ b < w.heap.size ∧ ∀ i (hi : i < l.length), w.cell? ⟨b, off + i * 2, none⟩ = some (St l[i].1) ∧ w.cell? ⟨b, off + i * 2 + 1, none⟩ = some (St l[i].2) := by
  rcases h.2.at_ with h0 | ⟨b, off, ha, hb, hc⟩
  · have h1 := Fs_length l
    rw [h0] at h1
    have := h.1
    simp at h1
    omega
  · refine ⟨b, off, ha, hb, fun i hi => ⟨hc _ _ (Fs_get l i hi).1, ?_⟩⟩
    have := hc _ _ (Fs_get l i hi).2
    rwa [← Nat.add_assoc] at this
theorem Fv.below {w w' : World} {B : Nat} {a : Option Addr} {n cap : Nat} {l : List Fd} (h : Fv w a n cap l) (k : Below B w w') (hs : ∀ b, a.map (·.block) = some b → b < B) : Fv w' a n cap l := ⟨h.1, h.2.below k hs⟩
theorem Fv.alloc {w : World} {a : Option Addr} {n cap : Nat} {l : List Fd} (h : Fv w a n cap l) (o : Obj) : Fv (w.alloc o) a n cap l := ⟨h.1, h.2.alloc o⟩
theorem Fv.drew {w : World} {a : Option Addr} {n cap : Nat} {l : List Fd} (h : Fv w a n cap l) : Fv w.drew a n cap l := ⟨h.1, h.2.drew⟩
theorem Fv.drewN {w : World} {a : Option Addr} {n cap : Nat} {l : List Fd} (h : Fv w a n cap l) (q : Nat) : Fv (w.drewN q) a n cap l := ⟨h.1, h.2.drewN q⟩

/-- A row of fields of one's own. -/
def Fo (base : Nat) (w : World) (a : Option Addr) (n cap : Nat) (l : List Fd) : Prop := n = l.length ∧ w.ownsRow base 26 2 (.slice a n cap) n (Fs l)
theorem Fo.fv {base : Nat} {w : World} {a : Option Addr} {n cap : Nat} {l : List Fd} (h : Fo base w a n cap l) : Fv w a n cap l := ⟨h.1, own_vw h.2⟩
theorem Fo.ge {base : Nat} {w : World} {a : Option Addr} {n cap : Nat} {l : List Fd} (h : Fo base w a n cap l) : ∀ b, a.map (·.block) = some b → base ≤ b ∧ b < w.heap.size := by
  intro b hb
  refine h.2.lt b ?_
  cases a with
  | none => cases hb
  | some a => simpa [Value.ownBlock] using hb
theorem Fo.keep {base : Nat} {w w' : World} {S : Nat → Prop} {a : Option Addr} {n cap : Nat} {l : List Fd} (h : Fo base w a n cap l) (k : Keeps S w w') (hs : ∀ b, a.map (·.block) = some b → ¬ S b) : Fo base w' a n cap l := ⟨h.1, own_keep h.2 k hs⟩
theorem Fo.below {base : Nat} {w w' : World} {a : Option Addr} {n cap : Nat} {l : List Fd} (h : Fo base w a n cap l) (k : Below w.heap.size w w') : Fo base w' a n cap l :=
  h.keep (Below.keeps k) (fun b hb hle => by have := (h.ge b hb).2; omega)
theorem Fo.mono {base base' : Nat} {w : World} {a : Option Addr} {n cap : Nat} {l : List Fd} (h : Fo base w a n cap l) (hb : base' ≤ base) : Fo base' w a n cap l := by
  refine ⟨h.1, ⟨h.2.1, ?_⟩⟩
  rcases h.2.2 with h0 | ⟨g, cap', cur, hv, hg, rest⟩
  · exact .inl h0
  · exact .inr ⟨g, cap', cur, hv, by omega, rest⟩
theorem Fo.new (w : World) (l : List Fd) (vs : Array Value) (h : l.length ≤ 1000) (hv : vs = (Fs l).toArray) : Fo w.heap.size (w.alloc (.cells vs 26 (0, 0))) (some ⟨w.heap.size, 0, none⟩) l.length l.length l := by
  subst hv
  refine ⟨rfl, ⟨Fs_length l, .inr ⟨w.heap.size, l.length, (Fs l).toArray, rfl, Nat.le_refl _, heap_alloc_new w _, Nat.le_refl _, by unfold maxLen; omega, by simp [Fs_length], ?_⟩⟩⟩
  simp [← Fs_length]

theorem infoF : (Try.prog.info? 26).map (fun i => (i.zero, i.size, i.bytes)) = some (some (.agg #[.string ⟨#[]⟩, .string ⟨#[]⟩]), 2, 32) := by kernel_rfl

end Go.Proofs.Ytlpdmpmfnjcelaa
