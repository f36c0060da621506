/- The chapter's example: known. -/
import Derived.Test.YtgfkgmmigbpciaaNumE
namespace Go.Proofs.Ytgfkgmmigbpciaa
set_option linter.unusedSimpArgs false
set_option linter.unusedVariables false
open Go.RowKit Go.Deep

/-- A slice of what has just been made. -/
theorem Vw.new (w : World) (cs : List Value) (t : TypeId) (h : cs.length ≤ maxLen) : Vw (w.alloc (.cells cs.toArray t (0, 0))) (some ⟨w.heap.size, 0, none⟩) cs.length cs.length 1 cs := by
 refine ⟨Nat.le_refl _, h, by simp, .inr ⟨w.heap.size, 0, rfl, by simp, fun j u hj => ?_⟩⟩
 have hb := Blk.new w cs.toArray t
 rw [Nat.zero_add, hb.cell j]
 simp [hj]
theorem Uv.one (w : World) (t : TypeId) (v : Int) (h0 : 0 ≤ v) (h1 : v ≤ 18446744073709551615) : Uv (w.alloc (.cells #[.int .u64 v] t (0, 0))) (some ⟨w.heap.size, 0, none⟩) 1 1 [v] :=
 ⟨rfl, Vw.new w [.int .u64 v] t (by unfold maxLen; simp), fun x hx => by simp at hx; subst hx; exact ⟨h0, h1⟩⟩
theorem By.new (w : World) (xs : List UInt8) (vs : Array Value) (t : TypeId) (h : xs.length ≤ 1000) (hv : vs = (Bs xs).toArray) : By (w.alloc (.cells vs t (0, 0))) (some ⟨w.heap.size, 0, none⟩) xs.length xs.length xs := by
 subst hv
 have := Vw.new w (Bs xs) t (by unfold maxLen; simp [Bs]; omega)
 rw [show (Bs xs).length = xs.length by simp [Bs]] at this
 exact ⟨rfl, this⟩

theorem upon_str {P : Program} {o : Oper} {a : Act} {K : Act → World → Prop} {Q : Exit → Act → World → Prop} {src dst : TypeId} {v : Value} {s : ByteArray} {w : World} (h : (convert src dst v).run P w = .ok (.string s) w) (hk : K (a.put o.dst (.string s)) w) :
  o.upon P a K Q (((convert src dst v).run P w).andThen fun a w' => .ok (.value a) w') := by rw [h]; exact hk
set_option maxRecDepth 100000 in
theorem By.upon {w : World} {a : Option Addr} {n cap : Nat} {xs : List UInt8} (h : By w a n cap xs) {o : Oper} {ac : Act} {K : Act → World → Prop} {Q : Exit → Act → World → Prop} (hk : K (ac.put o.dst (.string ⟨xs.toArray⟩)) w) :
  o.upon Try.prog ac K Q (((convert 22 9 (.slice a n cap)).run Try.prog w).andThen fun a w' => .ok (.value a) w') :=
 upon_str (h.str 22 5 9 Try.underlying22 Try.underlying5 Try.underlying9) hk

theorem Below.fresh {w w1 : World} (o : Obj) (h : Below (w.alloc o).heap.size (w.alloc o) w1) : Below w.heap.size w w1 := (Below.alloc (Below.refl _ _) (Nat.le_refl _) o).trans (h.mono (by simp))
theorem Bo.lt {base : Nat} {w : World} {a : Option Addr} {n cap : Nat} {xs : List UInt8} (h : Bo base w a n cap xs) : ∀ b, a.map (·.block) = some b → b < w.heap.size := fun b hb => (h.ge b hb).2

end Go.Proofs.Ytgfkgmmigbpciaa
