/- A table whose keys are pairs of a state and a type, made in a region whose order is open. -/
import Derived.Test.YtaelhcoeejpglaaB
import Derived.Test.YtaelhcoeejpglaaAny
import Derived.Test.YtaelhcoeejpglaaSeqP
import Derived.Maps.OwnOps
import Derived.Maps.OwnSet
import Derived.Maps.Views
import Derived.DeepKeys4
namespace Go.Proofs.Ytaelhcoeejpglaa
open Go.RowKit Go.Deep Go.Maps

def MvV (s t : Int) : Value := .agg #[.int .i64 s, .int .u64 t]
theorem laidOutT : laidOutB Try.prog = true := by kernel_rfl
theorem mvRow : (33 : TypeId) < Try.prog.types.size := of_decide_eq_true (by kernel_rfl)
theorem mvWide : (match Try.prog.underlying 33 with | some (.array _ _) | some (.struct _) => true | _ => false) = true := by rw [Try.underlying33]
theorem keyM : Keyed Try.prog 33 := Keyed.of_law (deep_law_laid laidOutT (m := 2) (by omega) mvRow (by kernel_rfl) mvWide)
theorem zeroI (w : World) : (zeroValue 3).run Try.prog w = .ok (.int .i64 0) w := by kernel_rfl
theorem mvCells : Try.prog.cellsOf 33 = 2 := by kernel_rfl
theorem mvKey : Try.prog.keyType 33 = true := by kernel_rfl
theorem intCells : Try.prog.cellsOf 3 = 1 := by kernel_rfl
theorem u64Cells : Try.prog.cellsOf 24 = 1 := by kernel_rfl

theorem keyM_of {s t : Int} (hs : (Lit.int .i64 s).wf = true) (ht : (Lit.int .u64 t).wf = true) : ∃ l, keyOf Try.prog 33 (MvV s t) = some l := by
  obtain ⟨d, hd⟩ : ∃ d, Try.prog.types.size + 1 = d + 2 := ⟨Try.prog.types.size - 1, by have h : (0 : Nat) < Try.prog.types.size := Nat.lt_of_le_of_lt (Nat.zero_le _) mvRow; omega⟩
  unfold keyOf
  rw [Try.underlying33]
  have hf : (MvV s t).formed Try.prog 33 = true := by simp [MvV, Value.formed, Try.underlying33, mvCells]
  simp only [mvKey, hf, hd]
  simp [Program.keyLits, Try.underlying33, Try.underlying3, Try.underlying24, mvCells, intCells, u64Cells, MvV, Value.cells, hs, ht]

theorem MvV_inj {s t s' t' : Int} (h : MvV s t = MvV s' t') : s = s' ∧ t = t' := by
  unfold MvV at h
  simpa using h

/-- Block b is a map of at most n entries in which f s t stands at (s, t). -/
def Mo (w : World) (b n : Nat) (f : Int → Int → Option Int) : Prop :=
  ∃ D : DataW Unit, w.ownsMap Try.prog 33 (plainElem Try.prog 3) b n D ∧ IsMap D ∧ ∀ s t l, keyOf Try.prog 33 (MvV s t) = some l → has D l = (f s t).isSome ∧ D.atKey l (.lit (.int .i64 0)) = .lit (.int .i64 ((f s t).getD 0))

theorem Mo.drew {w : World} {b n : Nat} {f : Int → Int → Option Int} (h : Mo w b n f) : Mo w.drew b n f := h
theorem Mo.keep {w w' : World} {S : Nat → Prop} {b n : Nat} {f : Int → Int → Option Int} (h : Mo w b n f) (k : Keeps S w w') (hs : ¬ S b) : Mo w' b n f := by
  obtain ⟨D, ho, hD, hf⟩ := h
  have hlt := ho.lt
  obtain ⟨es, clock, hb, rest⟩ := ho
  exact ⟨D, ⟨es, clock, (k.block b hlt hs).trans hb, rest⟩, hD, hf⟩
/-- .. it was made in the world w0, and nothing else was written since. -/
def Mq (w0 w : World) (b n : Nat) (f : Int → Int → Option Int) : Prop := Keeps (fun k => k = b) w0 w ∧ Mo w b n f
theorem Mq.made (w : World) : Mq (w.alloc (.map #[] 0)) (w.alloc (.map #[] 0)) w.heap.size 0 (fun _ _ => none) := ⟨Keeps.refl _ _, .map [], World.ownsMap_made _ _ _ _, ⟨[], rfl⟩, fun _ _ _ _ => ⟨rfl, rfl⟩⟩

theorem wpMo_lookup (w : World) {ops : Array Oper} {rest : List Oper} {o : Oper} {a : Act} {Q : Exit → Act → World → Prop}
    (hg : o.guard = none) (m x : Operand) (hop : o.op = Op.lookup 34 m x true) (b n : Nat) (f : Int → Int → Option Int)
    (hm : a.eval m = .map (some b)) (hown : Mo w b n f) (s t : Int) (hx : a.eval x = MvV s t) (hs : (Lit.int .i64 s).wf = true) (ht : (Lit.int .u64 t).wf = true)
    (hK : wpList Try.prog ops Q rest (a.put o.dst (.tuple #[.int .i64 ((f s t).getD 0), .bool (f s t).isSome])) w) : wpList Try.prog ops Q (o :: rest) a w := by
  obtain ⟨D, ho, hD, hf⟩ := hown
  obtain ⟨l, hl⟩ := keyM_of hs ht
  refine wpList_lookup_own_ok w hg m x _ hop _ _ keyM Try.underlying34 _ (zeroI w) (.lit (.int .i64 0)) [] (plainElem_int Try.underlying3 (by decide)) b n D hm ho _ _ hx hl (fun v ps hv => ?_)
  obtain ⟨c, rfl, hc, _⟩ := plainElem_int_inv Try.underlying3 hv
  have h2 := (hf s t l hl).2
  rw [(hf s t l hl).1]
  have hcc : c = (f s t).getD 0 := by
    have := (Prod.mk.inj hc).1
    rw [h2] at this
    simpa using this.symm
  rw [hcc]
  exact hK

/-- An entry is laid into the table. -/
theorem run_insert {w0 w : World} {b n : Nat} {f : Int → Int → Option Int} (h : Mq w0 w b n f) (hn : n < 1000000) {s t v : Int} (hs : (Lit.int .i64 s).wf = true) (ht : (Lit.int .u64 t).wf = true) (hv : (Lit.int .i64 v).wf = true) :
    ∃ w', (Instr.mapUpdate 34 (.map (some b)) (MvV s t) (.int .i64 v)).run Try.prog w = .ok () w' ∧ Mq w0 w' b (n + 1) (fun s' t' => if s' = s ∧ t' = t then some v else f s' t') := by
  obtain ⟨hk, D, ho, hD, hf⟩ := h
  obtain ⟨l, hl⟩ := keyM_of hs ht
  obtain ⟨w', hrun, h2, h3⟩ := ho.update keyM Try.underlying34 (by unfold maxLen; omega) hl (plainElem_int Try.underlying3 hv)
  refine ⟨w', hrun, hk.trans ⟨h3.os, h3.tape, h3.output, h3.size, fun k hk hs => h3.block k hk (by simpa using hs)⟩, _, h2, ?_, fun s' t' l' hl' => ?_⟩
  · obtain ⟨es, rfl⟩ := hD
    exact ⟨_, rfl⟩
  · show _ = (if s' = s ∧ t' = t then some v else f s' t').isSome ∧ _ = DataW.lit (Lit.int .i64 ((if s' = s ∧ t' = t then some v else f s' t').getD 0))
    by_cases e : s' = s ∧ t' = t
    · obtain ⟨rfl, rfl⟩ := e
      obtain rfl : l' = l := by rw [hl] at hl'; simpa using hl'.symm
      simp only [and_self, if_true]
      rw [has_put_same hD (keyM.key hl), atKey_put_same hD (keyM.key hl)]
      exact ⟨rfl, rfl⟩
    · have hne : l' ≠ l := fun e' => by
        subst e'
        exact e (MvV_inj (keyM.inj hl' hl))
      rw [if_neg e, has_put_other (by simpa using hne), atKey_put_other (by simpa using hne)]
      exact hf s' t' l' hl'

end Go.Proofs.Ytaelhcoeejpglaa
