/- make([]byte, n). -/
import Derived.Test.YtcfljnlfikkhaaaB
namespace Go.Proofs.Ytcfljnlfikkhaaa
open Go.RowKit Go.Deep

theorem below_of_grown {w w' : World} (h : w.grownBy w' none) : Below w.heap.size w w' := ⟨h.os, h.tape, h.output, h.size, fun k hk => h.block k hk (by simp)⟩

theorem made_bytes (n : Nat) : (madeCells (Value.int .u8 0).cells (n * 1)).toList = Bs (List.replicate n 0) := by
  apply List.ext_getElem
  · simp [madeCells, Bs]
  · intro i h1 h2
    have hm : i % 1 = 0 := by omega
    simp [madeCells, Bs, Value.cells, B, hm]

theorem wpList_make8 (w : World) {ops : Array Oper} {rest : List Oper} {o : Oper} {ac : Act} {Q : Exit → Act → World → Prop} (hg : o.guard = none) (l c : Operand) (hop : o.op = Op.makeSlice 29 l c) (n : Nat)
    (hl : ac.eval l = .int .i64 (n : Int)) (hc : ac.eval c = .int .i64 (n : Int)) (hn : n ≤ 1000000000)
    (hK : ∀ w', Bo w.heap.size w' (some ⟨w.heap.size, 0, none⟩) n n (List.replicate n 0) → Below w.heap.size w w' → wpList Try.prog ops Q rest (ac.put o.dst (.slice (some ⟨w.heap.size, 0, none⟩) n n)) w') : wpList Try.prog ops Q (o :: rest) ac w := by
  obtain ⟨i, hi, hz, hs1, hs2⟩ := info_parts info8
  refine wpList_make_full w hg l c 29 hop w.heap.size 5 i _ 1 Try.underlying29 hi hz hs1 .i64 .i64 n n n hl hc rfl rfl (by rw [hs2]; omega) (by unfold maxLen; omega) (Nat.le_refl _) ?_
  intro w' h1 h2
  refine hK w' ⟨by simp, ?_⟩ (below_of_grown h2)
  rw [made_bytes] at h1
  exact h1

end Go.Proofs.Ytcfljnlfikkhaaa
