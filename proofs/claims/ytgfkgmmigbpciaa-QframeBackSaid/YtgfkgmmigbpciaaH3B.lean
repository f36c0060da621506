/- Reserved and Write of the packages h3frame and bifoldref26. -/
import Derived.Test.YtgfkgmmigbpciaaH3A
import Derived.Deep.RegionWith
namespace Go.Proofs.Ytgfkgmmigbpciaa
set_option linter.unusedSimpArgs false
set_option linter.unusedVariables false
open Go.RowKit Go.Deep

/-- A frame in memory, and what its bytes are. -/
structure Fr where
 t : Int
 a : Option Addr
 n : Nat
 cap : Nat
 xs : List UInt8
def Frs : List Fr → List Value
 | [] => []
 | f :: l => .int .u64 f.t :: .slice f.a f.n f.cap :: Frs l
theorem Frs_length (l : List Fr) : (Frs l).length = l.length * 2 := by induction l with
 | nil => rfl
 | cons f l ih => simp [Frs, ih]; omega
theorem Frs_get (l : List Fr) : ∀ (i : Nat) (hi : i < l.length), (Frs l)[i * 2]? = some (.int .u64 l[i].t) ∧ (Frs l)[i * 2 + 1]? = some (.slice l[i].a l[i].n l[i].cap) := by
 induction l with
 | nil => intro i hi; simp at hi
 | cons f l ih =>
  intro i hi
  cases i with
  | zero => exact ⟨rfl, rfl⟩
  | succ i =>
   have := ih i (by simpa using hi)
   simp only [Frs, show (i + 1) * 2 = i * 2 + 1 + 1 by omega, List.getElem?_cons_succ, List.getElem_cons_succ]
   exact this
/-- A slice of frames in memory. -/
def Hv (w : World) (a : Option Addr) (n cap : Nat) (l : List Fr) : Prop := n = l.length ∧ Vw w a n cap 2 (Frs l) ∧ ∀ f ∈ l, 0 ≤ f.t ∧ f.t ≤ 18446744073709551615 ∧ By w f.a f.n f.cap f.xs
theorem Hv.get {w : World} {a : Option Addr} {n cap : Nat} {l : List Fr} (h : Hv w a n cap l) (hn : 0 < n) :
  ∃ b off, a = some ⟨b, off, none⟩ ∧ b < w.heap.size ∧ ∀ i (hi : i < l.length), w.cell? ⟨b, off + i * 2, none⟩ = some (.int .u64 l[i].t) ∧ w.cell? ⟨b, off + i * 2 + 1, none⟩ = some (.slice l[i].a l[i].n l[i].cap) := by
 rcases h.2.1.at_ with h0 | ⟨b, off, ha, hb, hc⟩
 ·have h1 := Frs_length l
  rw [h0] at h1
  have := h.1
  simp at h1
  omega
 ·refine ⟨b, off, ha, hb, fun i hi => ⟨hc _ _ (Frs_get l i hi).1, ?_⟩⟩
  have := hc _ _ (Frs_get l i hi).2
  rwa [← Nat.add_assoc] at this

theorem Uv.two (w : World) (t : TypeId) (u v : Int) (h0 : 0 ≤ u) (h1 : u ≤ 18446744073709551615) (h2 : 0 ≤ v) (h3 : v ≤ 18446744073709551615) : Uv (w.alloc (.cells #[.int .u64 u, .int .u64 v] t (0, 0))) (some ⟨w.heap.size, 0, none⟩) 2 2 [u, v] :=
 ⟨rfl, Vw.new w [.int .u64 u, .int .u64 v] t (by unfold maxLen; simp), fun x hx => by simp at hx; rcases hx with rfl | rfl <;> omega⟩

theorem varsE_two (u v : Int) : (varsE [u, v]).length ≤ 16 := by
 have e : varsE [u, v] = varE u ++ varE v := by simp [varsE]
 have h : ∀ x, (varE x).length ≤ 8 := fun x => by unfold varE; (repeat' split) <;> simp [bigD_length]
 have := h u
 have := h v
 rw [e, List.length_append]
 omega

/-- Vars of the reference, on what one owns or what is full. -/
theorem varsr_b (base : Nat) (a : Option Addr) (m cap : Nat) (xs : List UInt8) (a2 : Option Addr) (m2 cap2 : Nat) (vs : List Int) (w : World) (hd : Bd base w a m cap xs) (hv : Uv w a2 m2 cap2 vs) (hbase : base ≤ w.heap.size)
  (hne : cap = m ∨ ∀ b, a2.map (·.block) = some b → a.map (·.block) ≠ some b) (hl : m ≤ 1000000000) (hl2 : m2 ≤ 1000000000) :
  Calls Try.prog 21 #[.slice a m cap, .slice a2 m2 cap2] w fun e w' => ∃ a' n' cap', e = .returned (.tuple #[.slice a' n' cap', .int .i64 (varsErr vs)]) ∧ Bd base w' a' n' cap' (varsR xs vs) ∧ Below base w w' := by
 rcases hne with hc | hne
 ·subst hc
  refine (varsr_any w.heap.size a cap cap xs a2 m2 cap2 vs w hd.by.full hv (Nat.le_refl _) (fun hm b hb h => by have := hv.lt hm b hb; have := h.1; omega) hl hl2).mono ?_
  rintro e w' ⟨a', n', c', rfl, h1, h2, _⟩
  exact ⟨a', n', c', rfl, h1.mono hbase, (Keeps.mine_below (Below.refl _ _) h2 (Nat.le_refl _) (Nat.le_refl _)).mono hbase⟩
 ·refine (varsr_any base a m cap xs a2 m2 cap2 vs w hd hv hbase (fun _ b hb h => hne b hb h.2) hl hl2).mono ?_
  rintro e w' ⟨a', n', c', rfl, h1, h2, _⟩
  exact ⟨a', n', c', rfl, h1, Keeps.mine_below (Below.refl _ _) h2 hbase (Nat.le_refl _)⟩

end Go.Proofs.Ytgfkgmmigbpciaa
