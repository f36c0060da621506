/- Frames and bools that came in. -/
import Derived.Test.YtcfljnlfikkhaaaBlkJ
namespace Go.Proofs.Ytcfljnlfikkhaaa
open Go.RowKit Go.Deep

theorem Rd.bytes {w : World} {v : Value} (h : Rd Try.prog w 29 v) : ∃ a n cap xs, v = .slice a n cap ∧ ∀ w', Below w.heap.size w w' → By w' a n cap xs := by
  obtain ⟨a, len, cap, V, rfl, hl, hm, hs, hv⟩ := h.row Try.underlying29 (by kernel_rfl)
  have hc : ∀ i, i < len → ∃ c : UInt8, V i 0 = B c := by
    intro i hi
    obtain ⟨n, hn, hw⟩ := (hv i (by omega)).int Try.underlying5
    have := wf_u8_iff hw
    refine ⟨byt n, ?_⟩
    rw [hn, ← B_byt, Int.emod_eq_of_lt (by omega) (by omega)]
  obtain ⟨xs, h1, h2⟩ := list_of B (fun i => V i 0) len hc
  exact ⟨a, len, cap, xs, rfl, fun w' hb => ⟨h1.symm, Seen.vw hl hm (hs.keep hb (Nat.le_refl _)) h1 h2⟩⟩

theorem list_ofR {α : Type} (R : α → (Nat → Value) → Prop) (V : Nat → Nat → Value) : ∀ n : Nat, (∀ i, i < n → ∃ c : α, R c (V i)) → ∃ l : List α, l.length = n ∧ ∀ i (hi : i < l.length), R l[i] (V i) := by
  intro n
  induction n with
  | zero => intro _; exact ⟨[], rfl, fun i hi => by simp at hi⟩
  | succ n ih =>
    intro h
    obtain ⟨xs, h1, h2⟩ := ih (fun i hi => h i (by omega))
    obtain ⟨c, hc⟩ := h n (by omega)
    refine ⟨xs ++ [c], by simp [h1], fun i hi => ?_⟩
    by_cases hn : i < xs.length
    · rw [List.getElem_append_left hn]; exact h2 i hn
    · have : i = n := by simp at hi; omega
      subst this
      rw [List.getElem_append_right (by omega)]
      simpa [h1] using hc

/-- Numbers as a frame may have them. -/
def Fq.wf (f : Fq) : Prop := 0 ≤ f.t ∧ f.t ≤ 255 ∧ 0 ≤ f.fl ∧ f.fl ≤ 255 ∧ 0 ≤ f.st ∧ f.st ≤ 4294967295
/-- Frames in memory. -/
def Fv (w : World) (a : Option Addr) (n cap : Nat) (l : List Fq) : Prop := n = l.length ∧ n ≤ cap ∧ cap ≤ maxLen ∧ ∀ i (hi : i < l.length), ∃ b off, a = some ⟨b, off, none⟩ ∧ b < w.heap.size ∧
  (w.cell? ⟨b, off + i * 4, none⟩ = some (.int .u8 l[i].t) ∧ w.cell? ⟨b, off + i * 4 + 1, none⟩ = some (.int .u8 l[i].fl) ∧ w.cell? ⟨b, off + i * 4 + 2, none⟩ = some (.int .u32 l[i].st) ∧ w.cell? ⟨b, off + i * 4 + 3, none⟩ = some (.slice l[i].a l[i].n l[i].cap)) ∧ By w l[i].a l[i].n l[i].cap l[i].xs ∧ l[i].wf

theorem Arg.frames {w : World} {v : Value} (h : Arg Try.prog w 22 v) : ∃ a n cap l, v = .slice a n cap ∧ ∀ w', Below w.heap.size w w' → Fv w' a n cap l := by
  obtain ⟨a, len, cap, V, rfl, hl, hm, hs, hv⟩ := (h.rd_slice Try.underlying22).slice Try.underlying22 Try.underlying33 (by kernel_rfl) (by kernel_rfl) (by decide)
  have each : ∀ i, i < len → ∃ f : Fq, (V i 0 = .int .u8 f.t ∧ V i 1 = .int .u8 f.fl ∧ V i 2 = .int .u32 f.st ∧ V i 3 = .slice f.a f.n f.cap) ∧ f.wf ∧ ∀ w', Below w.heap.size w w' → By w' f.a f.n f.cap f.xs := by
    intro i hi
    obtain ⟨t, ht, hw⟩ := (hv i 0 _ (by omega) rfl).int Try.underlying5
    obtain ⟨fl, hfl, hw1⟩ := (hv i 1 _ (by omega) rfl).int Try.underlying5
    obtain ⟨st, hst, hw2⟩ := (hv i 2 _ (by omega) rfl).int Try.underlying28
    obtain ⟨a', n', c', xs, ha, hk⟩ := (hv i 3 _ (by omega) rfl).bytes
    have g0 := wf_u8_iff hw
    have g1 := wf_u8_iff hw1
    have g2 := wf_u32_iff hw2
    exact ⟨⟨t, fl, st, a', n', c', xs⟩, ⟨ht, hfl, hst, ha⟩, ⟨g0.1, g0.2, g1.1, g1.2, g2.1, g2.2⟩, hk⟩
  obtain ⟨l, h1, h2⟩ := list_ofR (fun (f : Fq) (W : Nat → Value) => (W 0 = .int .u8 f.t ∧ W 1 = .int .u8 f.fl ∧ W 2 = .int .u32 f.st ∧ W 3 = .slice f.a f.n f.cap) ∧ f.wf ∧ ∀ w', Below w.heap.size w w' → By w' f.a f.n f.cap f.xs) V len each
  refine ⟨a, len, cap, l, rfl, fun w' hb => ⟨h1.symm, hl, hm, fun i hi => ?_⟩⟩
  obtain ⟨⟨e0, e1, e2, e3⟩, hwf, hby⟩ := h2 i hi
  rcases hs.keep hb (Nat.le_refl _) with h0 | ⟨b, off, rfl, hlt, hc⟩
  · omega
  · have c0 := hc i 0 (by omega) (by decide)
    have c1 := hc i 1 (by omega) (by decide)
    have c2 := hc i 2 (by omega) (by decide)
    have c3 := hc i 3 (by omega) (by decide)
    rw [e0] at c0
    rw [e1] at c1
    rw [e2] at c2
    rw [e3] at c3
    exact ⟨b, off, rfl, hlt, ⟨c0, c1, c2, c3⟩, hby w' hb, hwf⟩

/-- Bools in memory. -/
def Bv (w : World) (a : Option Addr) (n cap : Nat) (l : List Bool) : Prop := n = l.length ∧ n ≤ cap ∧ cap ≤ maxLen ∧ ∀ i (hi : i < l.length), ∃ b off, a = some ⟨b, off, none⟩ ∧ b < w.heap.size ∧ w.cell? ⟨b, off + i, none⟩ = some (.bool l[i])
theorem Arg.bools {w : World} {v : Value} (h : Arg Try.prog w 23 v) : ∃ a n cap l, v = .slice a n cap ∧ ∀ w', Below w.heap.size w w' → Bv w' a n cap l := by
  obtain ⟨a, len, cap, V, rfl, hl, hm, hs, hv⟩ := (h.rd_slice Try.underlying23).row Try.underlying23 (by kernel_rfl)
  obtain ⟨l, h1, h2⟩ := list_of Value.bool (fun i => V i 0) len (fun i hi => (hv i (by omega)).bool Try.underlying4)
  refine ⟨a, len, cap, l, rfl, fun w' hb => ⟨h1.symm, hl, hm, fun i hi => ?_⟩⟩
  rcases hs.keep hb (Nat.le_refl _) with h0 | ⟨b, off, rfl, hlt, hc⟩
  · omega
  · refine ⟨b, off, rfl, hlt, ?_⟩
    have c0 := hc i 0 (by omega) (by decide)
    have e0 : V i 0 = .bool l[i] := h2 i hi
    rw [e0] at c0
    simpa using c0

end Go.Proofs.Ytcfljnlfikkhaaa
