/- Maps from numbers to counts that a call makes itself. -/
import Derived.Test.YtabdoikfcaiobaaH3B
import Derived.Maps.OwnOps
import Derived.Maps.Views
import Derived.Maps.AppendAt
namespace Go.Proofs.Ytabdoikfcaiobaa
open Go.RowKit Go.Deep Go.Maps

def inU (x : Int) : Prop := 0 ≤ x ∧ x ≤ 18446744073709551615

theorem keyU : Keyed Try.prog 40 := int_keyed Try.underlying40
theorem zeroI (w : World) : (zeroValue 3).run Try.prog w = .ok (.int .i64 0) w := by kernel_rfl
theorem keyU_of {x : Int} (h : inU x) : keyOf Try.prog 40 (.int .u64 x) = some (.int .u64 x) := by
  refine keyOf_int_mk Try.underlying40 ?_
  obtain ⟨h0, h1⟩ := h
  simp [Lit.wf, IntKind.min, IntKind.max, IntKind.signed, IntKind.bits]
  omega

/-- Block b is a map of at most n entries in which f x stands at x. -/
def Mp (w : World) (b n : Nat) (f : Int → Int) : Prop :=
  ∃ D : DataW Unit, w.ownsMap Try.prog 40 (plainElem Try.prog 3) b n D ∧ IsMap D ∧ ∀ x, inU x → D.atKey (.int .u64 x) (.lit (.int .i64 0)) = .lit (.int .i64 (f x))

theorem Mp.made (w : World) : Mp (w.alloc (.map #[] 0)) w.heap.size 0 (fun _ => 0) := ⟨.map [], World.ownsMap_made _ _ _ _, ⟨[], rfl⟩, fun _ _ => rfl⟩
theorem Mp.keep {w w' : World} {S : Nat → Prop} {b n : Nat} {f : Int → Int} (h : Mp w b n f) (k : Keeps S w w') (hs : ¬ S b) : Mp w' b n f := by
  obtain ⟨D, ho, hD, hf⟩ := h
  have hlt := ho.lt
  obtain ⟨es, clock, hb, rest⟩ := ho
  exact ⟨D, ⟨es, clock, (k.block b hlt hs).trans hb, rest⟩, hD, hf⟩
theorem Mp.lt {w : World} {b n : Nat} {f : Int → Int} (h : Mp w b n f) : b < w.heap.size := by obtain ⟨D, ho, _⟩ := h; exact ho.lt
theorem Mp.drewN {w : World} {b n : Nat} {f : Int → Int} (h : Mp w b n f) (q : Nat) : Mp (w.drewN q) b n f := h.keep (Keeps.drewN (Keeps.refl (fun _ => False) w) q) (fun h => h)
theorem Mp.drew {w : World} {b n : Nat} {f : Int → Int} (h : Mp w b n f) : Mp w.drew b n f := h.keep (Keeps.drew (Keeps.refl (fun _ => False) w)) (fun h => h)
theorem Mp.alloc {w : World} {b n : Nat} {f : Int → Int} (h : Mp w b n f) (o : Obj) : Mp (w.alloc o) b n f := h.keep ((Keeps.refl (fun _ => False) w).alloc o) (fun h => h)

theorem Mp.lookup {w : World} {b n : Nat} {f : Int → Int} (h : Mp w b n f) (x : Int) (hx : inU x) :
    (Instr.lookup 50 (.map (some b)) (.int .u64 x) false).run Try.prog w = .ok (.int .i64 (f x)) w := by
  obtain ⟨D, ho, hD, hf⟩ := h
  obtain ⟨c, hrun, hat, _⟩ := ho.lookup_int keyU Try.underlying50 Try.underlying3 (zeroI w) (keyU_of hx)
  rw [hf x hx] at hat
  simp at hat
  rw [hrun, hat]

theorem Mp.update {w : World} {b n : Nat} {f : Int → Int} (h : Mp w b n f) (hn : n < 1000000) (x v : Int) (hx : inU x) (h0 : 0 ≤ v) (h1 : v < 1000000000) :
    ∃ w', (Instr.mapUpdate 50 (.map (some b)) (.int .u64 x) (.int .i64 v)).run Try.prog w = .ok () w' ∧ Mp w' b (n + 1) (fun y => if y = x then v else f y) ∧ Keeps (fun k => k = b) w w' := by
  obtain ⟨D, ho, hD, hf⟩ := h
  have hw : (Lit.int .i64 v).wf = true := by simp [Lit.wf, IntKind.min, IntKind.max, IntKind.signed, IntKind.bits]; omega
  obtain ⟨w', hrun, h2, h3⟩ := ho.update keyU Try.underlying50 (by unfold maxLen; omega) (keyU_of hx) (plainElem_int Try.underlying3 hw)
  refine ⟨w', hrun, ⟨_, h2, ?_, fun y hy => ?_⟩, ⟨h3.os, h3.tape, h3.output, h3.size, fun k hk hs => h3.block k hk (by simpa using hs)⟩⟩
  · obtain ⟨es, rfl⟩ := hD
    exact ⟨_, rfl⟩
  · show _ = DataW.lit (.int .i64 (if y = x then v else f y))
    by_cases e : y = x
    · subst e
      rw [if_pos rfl, atKey_put_same hD (keyU.key (keyU_of hx))]
    · rw [if_neg e, atKey_put_other (by simpa using e), hf y hy]

theorem wpMp_lookup (w : World) {ops : Array Oper} {rest : List Oper} {o : Oper} {a : Act} {Q : Exit → Act → World → Prop}
    (hg : o.guard = none) (m x : Operand) (hop : o.op = Op.lookup 50 m x false) (b n : Nat) (f : Int → Int)
    (hm : a.eval m = .map (some b)) (hown : Mp w b n f) (key : Int) (hx : a.eval x = .int .u64 key) (hkey : inU key)
    (hK : wpList Try.prog ops Q rest (a.put o.dst (.int .i64 (f key))) w) : wpList Try.prog ops Q (o :: rest) a w := by
  refine wpList_plain hg fun K hK' => ?_
  have hrun := hown.lookup key hkey
  unfold Oper.wp
  simp [execOp, hop, hm, hx, hrun, Result.andThen]
  exact hK' _ _ hK

theorem wpMp_update (w : World) {ops : Array Oper} {rest : List Oper} {o : Oper} {a : Act} {Q : Exit → Act → World → Prop}
    (hg : o.guard = none) (m x u : Operand) (hop : o.op = Op.mapUpdate 50 m x u) (b n : Nat) (f : Int → Int)
    (hm : a.eval m = .map (some b)) (hown : Mp w b n f) (hn : n < 1000000) (key v : Int) (hx : a.eval x = .int .u64 key) (hkey : inU key) (hv : a.eval u = .int .i64 v) (h0 : 0 ≤ v) (h1 : v < 1000000000)
    (hK : ∀ w', Mp w' b (n + 1) (fun y => if y = key then v else f y) → Keeps (fun k => k = b) w w' → wpList Try.prog ops Q rest (a.put o.dst undef) w') : wpList Try.prog ops Q (o :: rest) a w := by
  refine wpList_plain hg fun K hK' => ?_
  obtain ⟨w', hrun, r1, r2⟩ := hown.update hn key v hkey h0 h1
  unfold Oper.wp
  simp [execOp, hop, hm, hx, hv, hrun, Result.andThen]
  exact hK' _ _ (hK w' r1 r2)

end Go.Proofs.Ytabdoikfcaiobaa
