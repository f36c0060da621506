/- What the walks of the statements share. -/
import Derived.Test.YtgfkgmmigbpciaaQrI
import Derived.Test.YtgfkgmmigbpciaaQfT
namespace Go.Proofs.Ytgfkgmmigbpciaa
set_option linter.unusedSimpArgs false
set_option linter.unusedVariables false
open Go.RowKit Go.Deep

/-- The block of a slice that came in is there. -/
theorem Arg.ltQ {P : Program} {w : World} {t e : TypeId} {a : Option Addr} {n cap : Nat} (h : Arg P w t (.slice a n cap)) (ht : P.underlying t = some (.slice e)) : ∀ b, a.map (·.block) = some b → b < w.heap.size := by
 intro b hb
 obtain ⟨⟨base, hv⟩, _⟩ := h
 cases a with
 | none => cases hb
 | some a =>
  cases hb
  simp only [Value.okWide, ht, Cell.okWide, Cell.ok, World.has] at hv
  obtain ⟨_, _, _, _, row, cells, hs, _⟩ := hv
  unfold World.shape? at hs
  split at hs
  ·rename_i hh; exact lt_of_block hh
  ·cases hs
theorem By.tightQ {w : World} {a : Option Addr} {n cap : Nat} {xs : List UInt8} (h : By w a n cap xs) : By w a n n xs := ⟨h.1, Nat.le_refl _, Nat.le_trans h.2.le h.2.max, h.2.len, h.2.at_⟩
theorem Qv.sub1 {w : World} {b off n cap : Nat} {l : List Qf} (h : Qv w (some ⟨b, off, none⟩) n cap l) {i : Nat} (hi : i < l.length) : Qv w (some ⟨b, off + i * 12, none⟩) 1 (cap - i) [l[i]] := by
 have h1 := h.1
 have h2 := h.2.1
 have h3 := h.2.2.1
 refine ⟨rfl, by omega, by omega, fun j hj => ?_⟩
 obtain rfl : j = 0 := by simpa using hj
 obtain ⟨⟨b2, off2, e, hb, hc⟩, hq⟩ := h.2.2.2 i hi
 cases e
 exact ⟨⟨b, off + i * 12, rfl, hb, fun k v hv => by rw [Nat.zero_mul, Nat.add_zero]; exact hc k v hv⟩, hq⟩
theorem FramesP.below {a : Option Addr} {r : Option (List UInt8)} {w : World} {e : Ending} {w' : World} (h : FramesP w.heap.size a r w e w') : Below w.heap.size w w' := Keeps.mine_below (Below.refl _ w) h.1 (Nat.le_refl _) (Nat.le_refl _)


end Go.Proofs.Ytgfkgmmigbpciaa
