/- An argument that is a slice of bytes. -/
import Derived.Test.YtaelhcoeejpglaaB
namespace Go.Proofs.Ytaelhcoeejpglaa
open Go.RowKit Go.Deep

theorem list_of {α : Type} (f : α → Value) (V : Nat → Value) : ∀ n : Nat, (∀ i, i < n → ∃ c, V i = f c) → ∃ xs : List α, xs.length = n ∧ ∀ i (hi : i < xs.length), V i = f xs[i] := by
  intro n
  induction n with
  | zero => intro _; exact ⟨[], rfl, fun i hi => by simp at hi⟩
  | succ n ih =>
    intro h
    obtain ⟨xs, h1, h2⟩ := ih (fun i hi => h i (by omega))
    obtain ⟨c, hc⟩ := h n (by omega)
    refine ⟨xs ++ [c], by simp [h1], fun i hi => ?_⟩
    by_cases hn : i < xs.length
    · rw [List.getElem_append_left hn]; exact h2 i hn
    · have : i = n := by simp at hi; omega
      subst this
      rw [hc]
      congr 1
      rw [List.getElem_append_right (by omega)]
      simp

theorem Seen.vw {α : Type} {f : α → Value} {w : World} {a : Option Addr} {len cap : Nat} {V : Nat → Nat → Value} {xs : List α} (hl : len ≤ cap) (hm : cap ≤ maxLen) (hs : Seen w a cap 1 V) (h1 : xs.length = len) (h2 : ∀ i (hi : i < xs.length), V i 0 = f xs[i]) : Vw w a len cap 1 (xs.map f) := by
  refine ⟨hl, hm, by simp [h1], ?_⟩
  rcases hs with h0 | ⟨b, off, rfl, hb, hc⟩
  · exact .inl (by have : xs = [] := List.eq_nil_of_length_eq_zero (by omega); simp [this])
  · refine .inr ⟨b, off, rfl, hb, fun j u hj => ?_⟩
    rw [List.getElem?_map] at hj
    obtain ⟨x, hx, rfl⟩ := Option.map_eq_some_iff.1 hj
    obtain ⟨hjl, rfl⟩ := List.getElem?_eq_some_iff.1 hx
    have := hc j 0 (by omega) (by omega)
    rw [← h2 j hjl, ← this]
    simp

theorem Vw.lt {w : World} {a : Option Addr} {len cap : Nat} {cs : List Value} (h : Vw w a len cap 1 cs) (h0 : 0 < len) : ∀ b, a.map (·.block) = some b → b < w.heap.size := by
  rcases h.at_ with rfl | ⟨b, off, rfl, hb, _⟩
  · have := h.len; simp at this; omega
  · intro c hc; cases hc; exact hb

/-- A slice of bytes that came in. It is nil where it has no room. -/
theorem Arg.bytes {w : World} {v : Value} (h : Arg Try.prog w 22 v) : ∃ a n cap xs, v = .slice a n cap ∧ By w a n cap xs ∧ (∀ w', Below w.heap.size w w' → By w' a n cap xs) := by
  obtain ⟨a, len, cap, V, rfl, hl, hm, hs, hv⟩ := (h.rd_slice Try.underlying22).row Try.underlying22 (by kernel_rfl)
  have hc : ∀ i, i < len → ∃ c : UInt8, V i 0 = B c := by
    intro i hi
    obtain ⟨n, hn, hw⟩ := (hv i (by omega)).int Try.underlying5
    have := wf_u8_iff hw
    refine ⟨byt n, ?_⟩
    rw [hn, ← B_byt, Int.emod_eq_of_lt (by omega) (by omega)]
  obtain ⟨xs, h1, h2⟩ := list_of B (fun i => V i 0) len hc
  have hvw : ∀ w', Seen w' a cap 1 V → By w' a len cap xs := fun w' hs' => ⟨h1.symm, Seen.vw hl hm hs' h1 h2⟩
  exact ⟨a, len, cap, xs, rfl, hvw w hs, fun w' hb => hvw w' (hs.keep hb (Nat.le_refl _))⟩

/-- Its block is there. -/
theorem Arg.lt {P : Program} {w : World} {t e : TypeId} {a : Option Addr} {n cap : Nat} (h : Arg P w t (.slice a n cap)) (ht : P.underlying t = some (.slice e)) : ∀ b, a.map (·.block) = some b → b < w.heap.size := by
  intro b hb
  obtain ⟨⟨base, hv⟩, _⟩ := h
  cases a with
  | none => cases hb
  | some a =>
    cases hb
    simp only [Value.okWide, ht, Cell.okWide, Cell.ok, World.has] at hv
    obtain ⟨_, _, _, _, row, cells, hs, _⟩ := hv
    unfold World.shape? at hs
    split at hs
    · rename_i hh; exact lt_of_block hh
    · cases hs

end Go.Proofs.Ytaelhcoeejpglaa
