/- Read of the package qparam. -/
import Derived.Test.YtabdoikfcaiobaaParD
namespace Go.Proofs.Ytabdoikfcaiobaa
open Go.RowKit Go.Deep Go.Maps

/-- Parameters as numbers and bytes. -/
def prsL (l : List Fr) : List (Int × List UInt8) := l.map fun f => (f.t, f.xs)
def rdT : Nat → List UInt8 → List (Int × List UInt8) → Option (List (Int × List UInt8))
  | 0, _, out => some out
  | k + 1, xs, out =>
    if xs = [] then some out
    else match oneR xs with
    | none => none
    | some (t, ys, zs) => if t ∈ out.map (·.1) ∨ out.length = 32 then none else rdT k zs (out ++ [(t, ys)])
def rdR (xs : List UInt8) : Option (List (Int × List UInt8)) := rdT (xs.length + 1) xs []

theorem rdT_end (k : Nat) (out : List (Int × List UInt8)) : rdT (k + 1) [] out = some out := by unfold rdT; rw [if_pos rfl]
theorem rdT_bad {k : Nat} {xs : List UInt8} {out : List (Int × List UInt8)} (h0 : xs ≠ []) (h1 : oneR xs = none) : rdT (k + 1) xs out = none := by
  unfold rdT; rw [if_neg h0, h1]
theorem rdT_no {k : Nat} {xs : List UInt8} {out : List (Int × List UInt8)} {t : Int} {ys zs : List UInt8} (h0 : xs ≠ []) (h1 : oneR xs = some (t, ys, zs)) (h2 : t ∈ out.map (·.1) ∨ out.length = 32) : rdT (k + 1) xs out = none := by
  rw [rdT, if_neg h0, h1]
  show (if _ then _ else _) = _
  rw [if_pos h2]
theorem rdT_go {k : Nat} {xs : List UInt8} {out : List (Int × List UInt8)} {t : Int} {ys zs : List UInt8} (h0 : xs ≠ []) (h1 : oneR xs = some (t, ys, zs)) (h2 : ¬ (t ∈ out.map (·.1) ∨ out.length = 32)) : rdT (k + 1) xs out = rdT k zs (out ++ [(t, ys)]) := by
  rw [rdT, if_neg h0, h1]
  show (if _ then _ else _) = _
  rw [if_neg h2]

theorem oneR_some {xs ys zs : List UInt8} {t : Int} (h : oneR xs = some (t, ys, zs)) : inU t ∧ ys.length ≤ xs.length ∧ zs.length < xs.length := by
  unfold oneR at h
  rcases rv_facts xs with ⟨f1, _, _⟩ | ⟨k, k1, _, kl, g2, g1, g3, g4⟩
  · rw [f1, if_pos (by decide)] at h; cases h
  · rw [g1, g2, if_neg (by decide), Int.toNat_natCast] at h
    rcases rv_facts (xs.drop k) with ⟨f1, _, _⟩ | ⟨j, j1, _, jl, f2, f1, f3, f4⟩
    · rw [f1, if_pos (by decide)] at h; cases h
    · rw [f1, f2, if_neg (by decide), Int.toNat_natCast] at h
      split at h
      · cases h
      · obtain ⟨rfl, rfl, rfl⟩ : rvV xs = t ∧ ((xs.drop k).drop j).take (rvV (xs.drop k)).toNat = ys ∧ (xs.drop k).drop ((j : Int) + rvV (xs.drop k)).toNat = zs := by simpa using h
        refine ⟨⟨g3, by omega⟩, ?_, ?_⟩
        · simp only [List.length_take, List.length_drop]; omega
        · simp only [List.length_drop]; omega

theorem infoP : (Try.prog.info? 42).map (fun i => (i.zero, i.size, i.bytes)) = some (some (.agg #[.int .u64 0, .slice none 0 0]), 2, 32) := by kernel_rfl

theorem src_par (w : World) (x : Int) (v : Value) (hv : v.oneCell' = true) : Src Try.prog 2 22 (.slice (some ⟨w.heap.size, 0, none⟩) 1 1) 1 [.int .u64 x, v] (w.alloc (.cells #[.int .u64 x, v] 42 (0, 0))) := by
  refine Src.ofSlice _ Try.underlying22 _ _ _ _ rfl (fun j u hj => ?_) (fun u hu => ?_)
  · have hb := Blk.new w #[.int .u64 x, v] 42
    match j with
    | 0 => exact (hb.cell 0).trans hj
    | 1 => exact (hb.cell 1).trans hj
    | j + 2 => simp at hj
  · simp at hu
    rcases hu with rfl | rfl
    · rfl
    · exact hv

theorem own_ge {base : Nat} {w : World} {e : TypeId} {size : Nat} {a : Option Addr} {n cap : Nat} {cs : List Value} (h : w.ownsRow base e size (.slice a n cap) n cs) : ∀ b, a.map (·.block) = some b → base ≤ b ∧ b < w.heap.size := by
  intro b hb
  refine h.lt b ?_
  cases a with
  | none => cases hb
  | some a => simpa [Value.ownBlock] using hb

/-- Parameters that a call has made itself: a row of its own, whose bytes lie in other blocks of its own. -/
def Po (base : Nat) (w : World) (a : Option Addr) (cap : Nat) (l : List Fr) : Prop :=
  w.ownsRow base 42 2 (.slice a l.length cap) l.length (Frs l) ∧ ∀ f ∈ l, inU f.t ∧ By w f.a f.n f.cap f.xs ∧ ∀ b, f.a.map (·.block) = some b → base ≤ b ∧ b < w.heap.size ∧ a.map (·.block) ≠ some b

theorem Po.nil (base : Nat) (w : World) : Po base w none 0 [] := ⟨World.ownsRow_nil _ _ _ _, fun f hf => by cases hf⟩
theorem own_mono {base base' : Nat} {w : World} {e : TypeId} {size : Nat} {a : Option Addr} {n cap : Nat} {cs : List Value} (h : w.ownsRow base e size (.slice a n cap) n cs) (hb : base' ≤ base) : w.ownsRow base' e size (.slice a n cap) n cs := by
  refine ⟨h.1, Or.imp id ?_ h.2⟩
  rintro ⟨g, cap', cur, hv, hg, rest⟩
  exact ⟨g, cap', cur, hv, Nat.le_trans hb hg, rest⟩
theorem Po.mono {base base' : Nat} {w : World} {a : Option Addr} {cap : Nat} {l : List Fr} (h : Po base w a cap l) (hb : base' ≤ base) : Po base' w a cap l :=
  ⟨own_mono h.1 hb, fun f hf => ⟨(h.2 f hf).1, (h.2 f hf).2.1, fun b e => ⟨Nat.le_trans hb ((h.2 f hf).2.2 b e).1, ((h.2 f hf).2.2 b e).2⟩⟩⟩
theorem Po.keep {base : Nat} {w w' : World} {S : Nat → Prop} {a : Option Addr} {cap : Nat} {l : List Fr} (h : Po base w a cap l) (k : Keeps S w w') (hs : ∀ b, S b → b < base) : Po base w' a cap l := by
  refine ⟨own_keep h.1 k (fun b hb hS => ?_), fun f hf => ?_⟩
  · have := (own_ge h.1 b hb).1
    have := hs b hS
    omega
  · obtain ⟨h1, h2, h3⟩ := h.2 f hf
    exact ⟨h1, h2.keep k (fun b hb hS => by have := (h3 b hb).1; have := hs b hS; omega), fun b hb => ⟨(h3 b hb).1, Nat.lt_of_lt_of_le (h3 b hb).2.1 k.size, (h3 b hb).2.2⟩⟩
theorem Po.below {base : Nat} {w w' : World} {a : Option Addr} {cap : Nat} {l : List Fr} (h : Po base w a cap l) (k : Below w.heap.size w w') : Po base w' a cap l := by
  refine ⟨own_keep h.1 (Below.keeps k) (fun b hb hS => ?_), fun f hf => ?_⟩
  · have := (own_ge h.1 b hb).2; omega
  · obtain ⟨h1, h2, h3⟩ := h.2 f hf
    exact ⟨h1, h2.keep (Below.keeps k) (fun b hb hS => by have := (h3 b hb).2.1; omega), fun b hb => ⟨(h3 b hb).1, Nat.lt_of_lt_of_le (h3 b hb).2.1 k.size, (h3 b hb).2.2⟩⟩
theorem Po.hv {base : Nat} {w : World} {a : Option Addr} {cap : Nat} {l : List Fr} (h : Po base w a cap l) : Hv w a l.length cap l :=
  ⟨rfl, own_vw h.1, fun f hf => ⟨(h.2 f hf).1.1, (h.2 f hf).1.2, (h.2 f hf).2.1⟩⟩
theorem Frs_snoc (l : List Fr) (f : Fr) : Frs (l ++ [f]) = Frs l ++ [.int .u64 f.t, .slice f.a f.n f.cap] := by
  induction l with
  | nil => rfl
  | cons g l ih => simp [Frs, ih]
/-- One more. -/
theorem Po.snoc {base : Nat} {w w' : World} {a a' : Option Addr} {cap cap' : Nat} {l : List Fr} {f : Fr} (h : Po base w a cap l) (hk : Keeps (mine base a) w w') (hn : Near base w a a') (ho : w'.ownsRow base 42 2 (.slice a' (l.length + 1) cap') (l.length + 1) (Frs l ++ [.int .u64 f.t, .slice f.a f.n f.cap]))
    (hu : inU f.t) (hf : By w f.a f.n f.cap f.xs) (hlt : ∀ b, f.a.map (·.block) = some b → base ≤ b ∧ b < w.heap.size ∧ a.map (·.block) ≠ some b) : Po base w' a' cap' (l ++ [f]) := by
  refine ⟨by rw [List.length_append, Frs_snoc]; exact ho, fun g hg => ?_⟩
  have key : inU g.t ∧ By w g.a g.n g.cap g.xs ∧ ∀ b, g.a.map (·.block) = some b → base ≤ b ∧ b < w.heap.size ∧ a.map (·.block) ≠ some b := by
    rcases List.mem_append.1 hg with h1 | h1
    · exact h.2 g h1
    · simp at h1; subst h1; exact ⟨hu, hf, hlt⟩
  refine ⟨key.1, key.2.1.keep hk (fun b hb hS => (key.2.2 b hb).2.2 hS.2), fun b hb => ⟨(key.2.2 b hb).1, Nat.lt_of_lt_of_le (key.2.2 b hb).2.1 hk.size, fun e => ?_⟩⟩
  rcases hn b e with rfl | ⟨h1, _⟩
  · exact (key.2.2 b hb).2.2 e
  · have := (key.2.2 b hb).2.1; omega

end Go.Proofs.Ytabdoikfcaiobaa
