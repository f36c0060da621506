/- Reserved and Write of the packages h3frame and bifoldref26. -/
import Derived.Test.YtgfkgmmigbpciaaH3A
import Derived.Deep.RegionWith
namespace Go.Proofs.Ytgfkgmmigbpciaa
set_option linter.unusedSimpArgs false
set_option linter.unusedVariables false
open Go.RowKit Go.Deep

/-- A frame in memory, and what its bytes are. -/
structure Fr where
 t : Int
 a : Option Addr
 n : Nat
 cap : Nat
 xs : List UInt8
def Frs : List Fr → List Value
 | [] => []
 | f :: l => .int .u64 f.t :: .slice f.a f.n f.cap :: Frs l
theorem Frs_length (l : List Fr) : (Frs l).length = l.length * 2 := by induction l with
 | nil => rfl
 | cons f l ih => simp [Frs, ih]; omega
theorem Frs_get (l : List Fr) : ∀ (i : Nat) (hi : i < l.length), (Frs l)[i * 2]? = some (.int .u64 l[i].t) ∧ (Frs l)[i * 2 + 1]? = some (.slice l[i].a l[i].n l[i].cap) := by
 induction l with
 | nil => intro i hi; simp at hi
 | cons f l ih =>
  intro i hi
  cases i with
  | zero => exact ⟨rfl, rfl⟩
  | succ i =>
   have := ih i (by simpa using hi)
   simp only [Frs, show (i + 1) * 2 = i * 2 + 1 + 1 by omega, List.getElem?_cons_succ, List.getElem_cons_succ]
   exact this
/-- A slice of frames in memory. -/
def Hv (w : World) (a : Option Addr) (n cap : Nat) (l : List Fr) : Prop := n = l.length ∧ Vw w a n cap 2 (Frs l) ∧ ∀ f ∈ l, 0 ≤ f.t ∧ f.t ≤ 18446744073709551615 ∧ By w f.a f.n f.cap f.xs
theorem Hv.get {w : World} {a : Option Addr} {n cap : Nat} {l : List Fr} (h : Hv w a n cap l) (hn : 0 < n) :
  ∃ b off, a = some ⟨b, off, none⟩ ∧ b < w.heap.size ∧ ∀ i (hi : i < l.length), w.cell? ⟨b, off + i * 2, none⟩ = some (.int .u64 l[i].t) ∧ w.cell? ⟨b, off + i * 2 + 1, none⟩ = some (.slice l[i].a l[i].n l[i].cap) := by
 rcases h.2.1.at_ with h0 | ⟨b, off, ha, hb, hc⟩
 ·have h1 := Frs_length l
  rw [h0] at h1
  have := h.1
  simp at h1
  omega
 ·refine ⟨b, off, ha, hb, fun i hi => ⟨hc _ _ (Frs_get l i hi).1, ?_⟩⟩
  have := hc _ _ (Frs_get l i hi).2
  rwa [← Nat.add_assoc] at this

theorem Uv.two (w : World) (t : TypeId) (u v : Int) (h0 : 0 ≤ u) (h1 : u ≤ 18446744073709551615) (h2 : 0 ≤ v) (h3 : v ≤ 18446744073709551615) : Uv (w.alloc (.cells #[.int .u64 u, .int .u64 v] t (0, 0))) (some ⟨w.heap.size, 0, none⟩) 2 2 [u, v] :=
 ⟨rfl, Vw.new w [.int .u64 u, .int .u64 v] t (by unfold maxLen; simp), fun x hx => by simp at hx; rcases hx with rfl | rfl <;> omega⟩

theorem varsE_two (u v : Int) : (varsE [u, v]).length ≤ 16 := by
 have e : varsE [u, v] = varE u ++ varE v := by simp [varsE]
 have h : ∀ x, (varE x).length ≤ 8 := fun x => by unfold varE; (repeat' split) <;> simp [bigD_length]
 have := h u
 have := h v
 rw [e, List.length_append]
 omega

end Go.Proofs.Ytgfkgmmigbpciaa
