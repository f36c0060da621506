/- The code's tables as the program makes them: lengths, firsts, codes. -/
import Derived.Test.YticdjfmebmblaaaHufA
import Derived.Deep.MidRow
import Derived.Deep.WholeRow
import Derived.Deep.RegionHeld3
import Derived.Deep.RegionWith
namespace Go.Proofs.Yticdjfmebmblaaa
open Go.RowKit Go.Deep

theorem wp_of_run {P : Program} {o : Oper} {a : Act} {w w' : World} {v : Value} {K : Act → World → Prop} {Q : Exit → Act → World → Prop} (h : (execOp a.eval o).run P w = .ok (.value v) w') (hk : K (a.put o.dst v) w') : o.wp P a w K Q := by
  unfold Oper.wp
  rw [h]
  exact hk

/-- Numbers of a kind, side by side. -/
def Ns (k : IntKind) (l : List Nat) : Array Value := (l.map fun n : Nat => Value.int k (n : Int)).toArray

theorem Ns_size (k : IntKind) (l : List Nat) : (Ns k l).size = l.length := by simp [Ns]
theorem Ns_get (k : IntKind) (l : List Nat) (i : Nat) (h : i < l.length) : (Ns k l)[i]? = some (.int k (l.getD i 0)) := by
  simp [Ns, List.getD, h]
theorem Ns_set (k : IntKind) (l : List Nat) (i v : Nat) : (Ns k l).setIfInBounds i (.int k v) = Ns k (l.set i v) := by
  simp [Ns, List.map_set]

section
variable {P : Program}
/-- An array that is written out. -/
theorem wpList_build_as {ops : Array Oper} {rest : List Oper} {o : Oper} {a : Act} {w : World} {Q : Exit → Act → World → Prop} (hg : o.guard = none) (t : TypeId) (parts : Array (Nat × Operand)) (ho : o.op = .build t parts) (cells : Array Value)
    (hf : P.built t (parts.map fun (i, x) => (i, a.eval x)).toList = some cells) (h : wpList P ops Q rest (a.put o.dst (.agg cells)) w) : wpList P ops Q (o :: rest) a w := by
  refine wpList_build hg t parts ho (by rw [hf]; rfl) ?_
  rw [hf]
  exact h

/-- A whole array into a block. -/
theorem wpList_store_blk {ops : Array Oper} {rest : List Oper} {o : Oper} {a : Act} {w : World} {Q : Exit → Act → World → Prop} (hgd : o.guard = none) (ty : TypeId) (x y : Operand) (ho : o.op = .store ty x y)
    (b : Nat) (cs : Array Value) (hx : a.eval x = .pointer (some ⟨b, 0, none⟩)) (hy : a.eval y = .agg cs)
    (t : TypeId) (old : Array Value) (hb : Blk w b old t) (hi : (P.info? ty).map (·.size) = some cs.size)
    (hold : old.size = cs.size) (h1 : cs.all (·.oneCell') = true)
    (h : wpList P ops Q rest (a.put o.dst undef) (w.setRow b cs)) : wpList P ops Q (o :: rest) a w :=
  wpList_store_row hgd ty x y ho b cs hx hy t old hb hi hold h1 h
end

theorem Blk.setRow {w : World} {b : Nat} {cs : Array Value} {t : TypeId} (h : Blk w b cs t) (cs' : Array Value) : Blk (w.setRow b cs') b cs' t := by
  unfold Blk at h ⊢
  exact setRow_heap w b cs cs' t _ h
theorem Blk.setRow_ne {w : World} {b b' : Nat} {cs : Array Value} {t : TypeId} (h : Blk w b cs t) (hn : b ≠ b') (cs' : Array Value) : Blk (w.setRow b' cs') b cs t := by
  unfold Blk at h ⊢
  rw [setRow_other w b' b cs' hn]
  exact h
theorem below_setRow {B : Nat} {w0 w : World} (h : Below B w0 w) {b : Nat} (hb : B ≤ b) (cs : Array Value) : Below B w0 (w.setRow b cs) :=
  ⟨h.os, h.tape, h.output, by have := h.size; simp; exact this, fun k hk => by rw [setRow_other w b k cs (by omega)]; exact h.block k hk⟩

theorem below_new {w0 w : World} (h : Below w0.heap.size w0 w) (o : Obj) : Below w0.heap.size w0 (w.alloc o) := h.alloc h.size o

theorem Ns_all (k : IntKind) (l : List Nat) : (Ns k l).all (·.oneCell') = true := by
  simp only [Ns, List.all_toArray, List.all_map, List.all_eq_true]
  intro x _
  rfl

/-- What the array of lengths is. -/
def lenV : Value := .agg (Ns .u8 lenL)

/-- n zeros. -/
def zer (k : IntKind) (n : Nat) : Array Value := Ns k (List.replicate n 0)
theorem zer_size (k : IntKind) (n : Nat) : (zer k n).size = n := by simp [zer, Ns]
theorem info_l : (Try.prog.info? 49).map (fun i => (i.zero, i.size)) = some (some (.agg (zer .u8 257)), 257) := by kernel_rfl
theorem lenL_length : lenL.length = 257 := by decide +kernel

set_option maxRecDepth 100000 in
set_option maxHeartbeats 1600000 in
theorem lengths_any (w : World) : Calls Try.prog 19 #[] w fun e w' => e = .returned lenV ∧ Below w.heap.size w w' := by
  obtain ⟨hz, hi⟩ := zero_of_info info_l
  have hi' : (Try.prog.info? 49).map (·.size) = some (Ns .u8 lenL).size := by rw [hi, Ns_size, lenL_length]
  have HI := Lib.hid hi'
  clear hi hi'
  go_enter Try.func19, Try.ntmps19
  go_wp2_with (refine wpList_build_as rfl _ _ rfl (Ns .u8 lenL) (by kernel_rfl) ?_; refine halt ?_)
  refine Halted.go (wpList_store_blk rfl _ _ _ rfl w.heap.size (Ns .u8 lenL) rfl rfl _ _ (Blk.new w _ _) HI.out (by rw [zer_size, Ns_size, lenL_length]) (Ns_all _ _) ?_)
  have HB := Lib.hid ((Blk.new w (zer .u8 257) 49).setRow (Ns .u8 lenL))
  have HK := Lib.hid (below_setRow ((Below.refl w.heap.size w).alloc (Nat.le_refl _) (.cells (zer .u8 257) 49 (0, 0))) (Nat.le_refl _) (Ns .u8 lenL))
  clear hz
  go_wp2_with fail
  exact bodyPost_ret (results_cell_row rfl _ _ w.heap.size _ _ _ _ rfl HB.out Try.underlying49 rfl HI.out) rfl ⟨rfl, HK.out⟩

end Go.Proofs.Yticdjfmebmblaaa
