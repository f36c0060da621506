/- A slice that is written out: buildSlice, of one-cell elements, whatever their number. No program in sight. -/
import Derived.Test.YticdjfmebmblaaaB
namespace Go.Proofs.Yticdjfmebmblaaa
open Go.RowKit Go.Deep

theorem fill_row : ∀ (l : List Value) (k : Nat) (cells : Array Value), (∀ v ∈ l, v.cells = #[v]) → k + l.length = cells.size →
    Instr.fill (fun i => some (i * 1, 1)) cells ((l.zipIdx k).map fun p => (p.2, p.1)) = some (cells.toList.take k ++ l).toArray := by
  intro l
  induction l with
  | nil =>
    intro k cells _ hk
    have : cells.toList.take k = cells.toList := List.take_of_length_le (by simp at hk ⊢; omega)
    simp [Instr.fill, this]
  | cons v l ih =>
    intro k cells h1 hk
    have hv := h1 v (by simp)
    simp only [List.length_cons] at hk
    simp only [List.zipIdx_cons, List.map_cons, Instr.fill, hv]
    have hc : ¬ (k * 1 + 1 > cells.size) := by omega
    simp only [List.size_toArray, List.length_cons, List.length_nil, hc, decide_false, Bool.or_false]
    have e : (#[v].zipIdx.foldl (fun cs (p : Value × Nat) => cs.setIfInBounds (k * 1 + p.2) p.1) cells) = cells.setIfInBounds k v := by simp
    rw [if_neg (by simp), e, ih (k + 1) _ (fun u hu => h1 u (by simp [hu])) (by simp; omega)]
    congr 2
    have hk' : k < cells.toList.length := by simp; omega
    rw [Array.toList_setIfInBounds, List.take_succ_eq_append_getElem (by simpa using hk'), List.take_set, List.set_eq_of_length_le (by simp; omega)]
    simp

theorem run_buildSlice_row {P : Program} (w : World) (t e : TypeId) (z : Value) (ht : P.underlying t = some (.slice e)) (hi : (P.info? e).map (fun i => (i.zero, i.size)) = some (some z, 1)) (l : List Value) (n : Nat) (hn : l.length = n) (h0 : 0 < n) (hle : n ≤ 16777216) (h1 : ∀ v ∈ l, v.cells = #[v]) :
    (Instr.buildSlice t n ((l.zipIdx.map fun p => (p.2, p.1)).toArray)).run P w = .ok (.slice (some ⟨w.heap.size, 0, none⟩) n n) (w.alloc (.cells l.toArray e)) := by
  cases hq : P.info? e with
  | none => simp [hq] at hi
  | some i =>
    simp [hq] at hi
    have hf := fill_row l 0 ((Array.range (n * 1)).map (z.cells[· % z.cells.size]!)) h1 (by simp; omega)
    simp only [List.take_zero, List.nil_append] at hf
    have h2 : ¬ (16777216 < n) := by omega
    have h3 : ¬ (n = 0) := by omega
    simp only [Nat.mul_one] at hf
    simp [Instr.buildSlice, run_underlying ht, sizeOf, typeInfo, zeroValue, hq, hi.1, hi.2, h2, h3, hf, newRow]

/-- At the list of a plain region's operations. -/
theorem wpList_row {P : Program} {ops : Array Oper} {rest : List Oper} {o : Oper} {ac : Act} {w : World} {Q : Exit → Act → World → Prop} (hg : o.guard = none) (t n : Nat) (parts : Array (Nat × Operand)) (ho : o.op = .buildSlice t n parts)
    (e : TypeId) (z : Value) (ht : P.underlying t = some (.slice e)) (hi : (P.info? e).map (fun i => (i.zero, i.size)) = some (some z, 1)) (l : List Value)
    (hp : (parts.map fun (i, x) => (i, ac.eval x)) = (l.zipIdx.map fun p => (p.2, p.1)).toArray) (hn : l.length = n) (h0 : 0 < n) (hle : n ≤ 16777216) (h1 : ∀ v ∈ l, v.cells = #[v])
    (h : wpList P ops Q rest (ac.put o.dst (.slice (some ⟨w.heap.size, 0, none⟩) n n)) (w.alloc (.cells l.toArray e))) : wpList P ops Q (o :: rest) ac w :=
  wpList_plain hg fun K hK => by
    have hr := run_buildSlice_row (P := P) w t e z ht hi l n hn h0 hle h1
    rw [← hp] at hr
    unfold Oper.wp execOp
    simp only [ho, Sem.run_bind, Sem.run_pure, Result.andThen_ok, hr]
    exact hK _ _ h

end Go.Proofs.Yticdjfmebmblaaa
