/- Frames in memory; a block that is split. -/
import Derived.Test.YtcfljnlfikkhaaaBlkF
namespace Go.Proofs.Ytcfljnlfikkhaaa
open Go.RowKit Go.Deep

theorem infoF : (Try.prog.info? 33).map (fun i => (i.zero, i.size, i.bytes)) = some (some (.agg #[.int .u8 0, .int .u8 0, .int .u32 0, .slice none 0 0]), 4, 32) := by kernel_rfl

theorem own_ge {base : Nat} {w : World} {e : TypeId} {size : Nat} {a : Option Addr} {n cap : Nat} {cs : List Value} (h : w.ownsRow base e size (.slice a n cap) n cs) : ∀ b, a.map (·.block) = some b → base ≤ b ∧ b < w.heap.size := by
  intro b hb
  refine h.lt b ?_
  cases a with
  | none => cases hb
  | some a => simpa [Value.ownBlock] using hb
theorem src_blk {w : World} {b k : Nat} {cs : Array Value} {t e st : TypeId} (h : Blk w b cs t) (hst : Try.prog.underlying st = some (.slice e)) (hk : cs.size = k) (h1 : ∀ u ∈ cs.toList, u.oneCell' = true) : Src Try.prog k st (.slice (some ⟨b, 0, none⟩) 1 1) 1 cs.toList w := by
  subst hk
  refine Src.ofSlice _ hst _ _ _ _ (by simp) (fun j u hj => ?_) h1
  rw [Go.WideShapes.add_plain, Nat.zero_add, h.cell j]
  simpa using hj

/-- A frame in memory, and what its bytes are. -/
structure Fq where
  t : Int
  fl : Int
  st : Int
  a : Option Addr
  n : Nat
  cap : Nat
  xs : List UInt8
def Fq.cs (f : Fq) : List Value := [.int .u8 f.t, .int .u8 f.fl, .int .u32 f.st, .slice f.a f.n f.cap]
def fqs (l : List Fq) : List Value := l.flatMap Fq.cs
theorem fqs_snoc (l : List Fq) (f : Fq) : fqs (l ++ [f]) = fqs l ++ f.cs := by simp [fqs]
theorem fqs_length : ∀ (l : List Fq), (fqs l).length = l.length * 4
  | [] => rfl
  | t :: l => by
    have e : fqs (t :: l) = t.cs ++ fqs l := by simp [fqs]
    rw [e, List.length_append, fqs_length l]
    simp [Fq.cs]
    omega
theorem fqs_get : ∀ (l : List Fq) (i : Nat) (hi : i < l.length) (j : Nat), j < 4 → (fqs l)[i * 4 + j]? = l[i].cs[j]?
  | t :: l, 0, _, j, hj => by
    have e : fqs (t :: l) = t.cs ++ fqs l := by simp [fqs]
    rw [e, Nat.zero_mul, Nat.zero_add, List.getElem?_append_left (by simp [Fq.cs]; omega)]
    rfl
  | t :: l, i + 1, hi, j, hj => by
    have e : fqs (t :: l) = t.cs ++ fqs l := by simp [fqs]
    have h7 : t.cs.length = 4 := rfl
    rw [e, List.getElem?_append_right (by rw [h7]; omega), h7, show (i + 1) * 4 + j - 4 = i * 4 + j by omega]
    exact fqs_get l i (by simpa using hi) j hj

/-- Frames that a call has made itself. -/
def Qo (base : Nat) (w : World) (a : Option Addr) (cap : Nat) (l : List Fq) : Prop :=
  w.ownsRow base 33 4 (.slice a l.length cap) l.length (fqs l) ∧ ∀ f ∈ l, By w f.a f.n f.cap f.xs ∧ ∀ b, f.a.map (·.block) = some b → base ≤ b ∧ b < w.heap.size ∧ a.map (·.block) ≠ some b
theorem Qo.nil (base : Nat) (w : World) : Qo base w none 0 [] := ⟨World.ownsRow_nil _ _ _ _, fun f hf => by cases hf⟩
theorem Qo.keep {base : Nat} {w w' : World} {S : Nat → Prop} {a : Option Addr} {cap : Nat} {l : List Fq} (h : Qo base w a cap l) (k : Keeps S w w') (hs : ∀ b, S b → b < base ∨ w.heap.size ≤ b) : Qo base w' a cap l := by
  refine ⟨own_keep h.1 k (fun b hb hS => ?_), fun f hf => ?_⟩
  · have := own_ge h.1 b hb
    have := hs b hS
    omega
  · obtain ⟨h2, h3⟩ := h.2 f hf
    exact ⟨h2.keep k (fun b hb hS => by have := h3 b hb; have := hs b hS; omega), fun b hb => ⟨(h3 b hb).1, Nat.lt_of_lt_of_le (h3 b hb).2.1 k.size, (h3 b hb).2.2⟩⟩
theorem Qo.one {base : Nat} {w : World} (f : Fq) (hb : base ≤ w.heap.size) (hf : By w f.a f.n f.cap f.xs) (hlt : ∀ b, f.a.map (·.block) = some b → base ≤ b ∧ b < w.heap.size) :
    Qo base (w.alloc (.cells #[.int .u8 f.t, .int .u8 f.fl, .int .u32 f.st, .slice f.a f.n f.cap] 33 (0, 0))) (some ⟨w.heap.size, 0, none⟩) 1 [f] := by
  refine ⟨⟨rfl, .inr ⟨w.heap.size, 1, _, rfl, hb, heap_alloc_new w _, Nat.le_refl _, by unfold maxLen; omega, rfl, rfl⟩⟩, fun g hg => ?_⟩
  simp at hg
  subst hg
  exact ⟨hf.keep ((Keeps.refl (fun _ => False) w).alloc _) (fun _ _ h => h), fun b hb' => ⟨(hlt b hb').1, by have := (hlt b hb').2; simp; omega, fun e => by have := (hlt b hb').2; simp at e; omega⟩⟩
/-- One more. -/
theorem Qo.snoc {base : Nat} {w w' : World} {a a' : Option Addr} {cap cap' : Nat} {l : List Fq} {f : Fq} (h : Qo base w a cap l) (hk : Keeps (mine base a) w w') (hn : Near base w a a') (ho : w'.ownsRow base 33 4 (.slice a' (l.length + 1) cap') (l.length + 1) (fqs l ++ f.cs))
    (hf : By w f.a f.n f.cap f.xs) (hlt : ∀ b, f.a.map (·.block) = some b → base ≤ b ∧ b < w.heap.size ∧ a.map (·.block) ≠ some b) : Qo base w' a' cap' (l ++ [f]) := by
  refine ⟨by rw [List.length_append, fqs_snoc]; exact ho, fun g hg => ?_⟩
  have key : By w g.a g.n g.cap g.xs ∧ ∀ b, g.a.map (·.block) = some b → base ≤ b ∧ b < w.heap.size ∧ a.map (·.block) ≠ some b := by
    rcases List.mem_append.1 hg with h1 | h1
    · exact h.2 g h1
    · simp at h1; subst h1; exact ⟨hf, hlt⟩
  refine ⟨key.1.keep hk (fun b hb hS => (key.2 b hb).2.2 hS.2), fun b hb => ⟨(key.2 b hb).1, Nat.lt_of_lt_of_le (key.2 b hb).2.1 hk.size, fun e => ?_⟩⟩
  rcases hn b e with rfl | ⟨h1, _⟩
  · exact (key.2 b hb).2.2 e
  · have := (key.2 b hb).2.1; omega

/-- Frame i of what lies in memory. -/
theorem Qo.get {base : Nat} {w : World} {a : Option Addr} {cap : Nat} {l : List Fq} (h : Qo base w a cap l) (i : Nat) (hi : i < l.length) :
    ∃ b off, a = some ⟨b, off, none⟩ ∧ b < w.heap.size ∧ (w.cell? ⟨b, off + i * 4, none⟩ = some (.int .u8 l[i].t) ∧ w.cell? ⟨b, off + i * 4 + 1, none⟩ = some (.int .u8 l[i].fl) ∧ w.cell? ⟨b, off + i * 4 + 2, none⟩ = some (.int .u32 l[i].st) ∧ w.cell? ⟨b, off + i * 4 + 3, none⟩ = some (.slice l[i].a l[i].n l[i].cap)) ∧ By w l[i].a l[i].n l[i].cap l[i].xs := by
  have hv := own_vw h.1
  rcases hv.at_ with h0 | ⟨b, off, ha, hb, hc⟩
  · have h1 := fqs_length l
    rw [h0] at h1
    simp at h1
    omega
  · have at_ : ∀ j, j < 4 → ∀ v, l[i].cs[j]? = some v → w.cell? ⟨b, off + i * 4 + j, none⟩ = some v := fun j hj v hv => by
      have := hc (i * 4 + j) v (by rw [fqs_get l i hi j hj]; exact hv)
      rwa [← Nat.add_assoc] at this
    exact ⟨b, off, ha, hb, ⟨at_ 0 (by omega) _ rfl, at_ 1 (by omega) _ rfl, at_ 2 (by omega) _ rfl, at_ 3 (by omega) _ rfl⟩, (h.2 _ (List.getElem_mem hi)).1⟩

/-- Frame i of a block that is split. -/
def spT (i : Nat) : Int := if i = 0 then 1 else 9
def spL (p T i : Nat) : Bool := decide (T ≤ (i + 1) * p)
def spF (en : Bool) (p T i : Nat) : Int := (if i = 0 then (if en then 1 else 0) else 0) + (if spL p T i then 4 else 0)
def spX (p : Nat) (ys : List UInt8) (i : Nat) : List UInt8 := (ys.drop (i * p)).take p
def SpAt (st : Int) (en : Bool) (p : Nat) (ys : List UInt8) (i : Nat) (f : Fq) : Prop := f.t = spT i ∧ f.fl = spF en p ys.length i ∧ f.st = st ∧ f.xs = spX p ys i
def SpOK (st : Int) (en : Bool) (p : Nat) (ys : List UInt8) (l : List Fq) : Prop := ∀ i (hi : i < l.length), SpAt st en p ys i l[i]
theorem SpOK.snoc {st : Int} {en : Bool} {p : Nat} {ys : List UInt8} {l : List Fq} {f : Fq} (h : SpOK st en p ys l) (hf : SpAt st en p ys l.length f) : SpOK st en p ys (l ++ [f]) := by
  intro i hi
  by_cases hn : i < l.length
  · rw [List.getElem_append_left hn]; exact h i hn
  · have : i = l.length := by simp at hi; omega
    subst this
    rw [List.getElem_append_right (by omega)]
    simpa using hf
theorem SpOK.nil (st : Int) (en : Bool) (p : Nat) (ys : List UInt8) : SpOK st en p ys [] := fun i hi => by simp at hi
/-- What Split answers. -/
def SplP (st : Int) (en : Bool) (p : Nat) (ys : List UInt8) (w : World) (e : Ending) (w' : World) : Prop :=
  ∃ a cap l, e = .returned (.slice a l.length cap) ∧ Qo w.heap.size w' a cap l ∧ SpOK st en p ys l ∧ 1 ≤ l.length ∧ ys.length ≤ l.length * p ∧ (l.length = 1 ∨ (l.length - 1) * p < ys.length) ∧ Below w.heap.size w w'

end Go.Proofs.Ytcfljnlfikkhaaa
