/- Tables of numbers that a call makes itself; the code of a rule. -/
import Derived.Test.YtcckdahpagkbaaaNumB
import Derived.Maps.OwnOps
import Derived.Maps.OwnSet
import Derived.Maps.Views
import Derived.Deep.DeepCutAuto
namespace Go.Proofs.Ytcckdahpagkbaaa
open Go.RowKit Go.Deep Go.Maps

theorem keyI : Keyed Try.prog 3 := int_keyed Try.underlying3
theorem zeroU (w : World) : (zeroValue 24).run Try.prog w = .ok (.int .u64 0) w := by kernel_rfl
theorem keyI_of {x : Int} (h : (Lit.int .i64 x).wf = true) : keyOf Try.prog 3 (.int .i64 x) = some (.int .i64 x) := keyOf_int_mk Try.underlying3 h

/-- Block b is a map of at most n entries in which f x stands at x. -/
def Mo (w : World) (b n : Nat) (f : Int → Option Int) : Prop :=
  ∃ D : DataW Unit, w.ownsMap Try.prog 3 (plainElem Try.prog 24) b n D ∧ IsMap D ∧ ∀ x, has D (.int .i64 x) = (f x).isSome ∧ D.atKey (.int .i64 x) (.lit (.int .u64 0)) = .lit (.int .u64 ((f x).getD 0))

theorem Mo.keep {w w' : World} {S : Nat → Prop} {b n : Nat} {f : Int → Option Int} (h : Mo w b n f) (k : Keeps S w w') (hs : ¬ S b) : Mo w' b n f := by
  obtain ⟨D, ho, hD, hf⟩ := h
  have hlt := ho.lt
  obtain ⟨es, clock, hb, rest⟩ := ho
  exact ⟨D, ⟨es, clock, (k.block b hlt hs).trans hb, rest⟩, hD, hf⟩
/-- .. it was made in the world w0, and nothing else was written since. -/
def Mq (w0 w : World) (b n : Nat) (f : Int → Option Int) : Prop := Keeps (fun k => k = b) w0 w ∧ Mo w b n f
theorem Mq.made (w : World) : Mq (w.alloc (.map #[] 0)) (w.alloc (.map #[] 0)) w.heap.size 0 (fun _ => none) := ⟨Keeps.refl _ _, .map [], World.ownsMap_made _ _ _ _, ⟨[], rfl⟩, fun _ => ⟨rfl, rfl⟩⟩

theorem wpMo_lookup (w : World) {ops : Array Oper} {rest : List Oper} {o : Oper} {a : Act} {Q : Exit → Act → World → Prop}
    (hg : o.guard = none) (m x : Operand) (hop : o.op = Op.lookup 43 m x true) (b n : Nat) (f : Int → Option Int)
    (hm : a.eval m = .map (some b)) (hown : Mo w b n f) (key : Int) (hx : a.eval x = .int .i64 key) (hkey : (Lit.int .i64 key).wf = true)
    (hK : wpList Try.prog ops Q rest (a.put o.dst (.tuple #[.int .u64 ((f key).getD 0), .bool (f key).isSome])) w) : wpList Try.prog ops Q (o :: rest) a w := by
  obtain ⟨D, ho, hD, hf⟩ := hown
  refine wpList_lookup_own_ok w hg m x _ hop _ _ keyI Try.underlying43 _ (zeroU w) (.lit (.int .u64 0)) [] (plainElem_int Try.underlying24 (by decide)) b n D hm ho _ _ hx (keyI_of hkey) (fun v ps hv => ?_)
  obtain ⟨c, rfl, hc, _⟩ := plainElem_int_inv Try.underlying24 hv
  have h2 := (hf key).2
  rw [(hf key).1]
  have hcc : c = (f key).getD 0 := by
    have := (Prod.mk.inj hc).1
    rw [h2] at this
    simpa using this.symm
  rw [hcc]
  exact hK

theorem wpMq_insert (w0 w : World) {ops : Array Oper} {rest : List Oper} {o : Oper} {a : Act} {Q : Exit → Act → World → Prop}
    (hg : o.guard = none) (m x u : Operand) (hop : o.op = Op.insert 43 m x u) (b n : Nat) (f : Int → Option Int)
    (hm : a.eval m = .map (some b)) (hown : Mq w0 w b n f) (hn : n < 1000000) (key v : Int) (hx : a.eval x = .int .i64 key) (hkey : (Lit.int .i64 key).wf = true) (hv : a.eval u = .int .u64 v) (hvw : (Lit.int .u64 v).wf = true)
    (hK : ∀ w', Mq w0 w' b (n + 1) (fun y => if y = key then some v else f y) → wpList Try.prog ops Q rest (a.put o.dst undef) w') : wpList Try.prog ops Q (o :: rest) a w := by
  refine wpList_plain hg fun K hK' => ?_
  obtain ⟨hk, D, ho, hD, hf⟩ := hown
  obtain ⟨w', hrun, h2, h3⟩ := ho.update keyI Try.underlying43 (by unfold maxLen; omega) (keyI_of hkey) (plainElem_int Try.underlying24 hvw)
  unfold Oper.wp
  simp [execOp, hop, hm, hx, hv, hrun, Result.andThen]
  refine hK' _ _ (hK w' ⟨hk.trans ⟨h3.os, h3.tape, h3.output, h3.size, fun k hk hs => h3.block k hk (by simpa using hs)⟩, _, h2, ?_, fun y => ?_⟩)
  · obtain ⟨es, rfl⟩ := hD
    exact ⟨_, rfl⟩
  · show _ = (if y = key then some v else f y).isSome ∧ _ = DataW.lit (Lit.int .u64 ((if y = key then some v else f y).getD 0))
    by_cases e : y = key
    · subst e
      rw [if_pos rfl, has_put_same hD (keyI.key (keyI_of hkey)), atKey_put_same hD (keyI.key (keyI_of hkey))]
      exact ⟨rfl, rfl⟩
    · rw [if_neg e, has_put_other (by simpa using e), atKey_put_other (by simpa using e)]
      exact hf y

def two (y : Int) : Option Int := if y = 7 then some 9 else if y = 5 then some 5 else if y = 4 then some 1 else if y = 3 then some 3 else if y = 8 then some 1 else if y = 9 then some 1 else if y = 6 then some 1 else if y = 2 then some 1 else if y = 1 then some 6 else if y = 0 then some 0 else none
def three (y : Int) : Option Int := if y = 8 then some 270 else if y = 7 then some 512 else if y = 5 then some 260 else if y = 4 then some 265 else if y = 3 then some 257 else if y = 9 then some 261 else if y = 6 then some 261 else if y = 2 then some 259 else if y = 1 then some 262 else if y = 0 then some 256 else none
/-- The code of a rule on a stack. -/
def codeV (r s : Int) : Int := if s = 2 then (two r).getD 2 else if s = 3 then (three r).getD 258 else 0

set_option maxHeartbeats 1600000 in
theorem code_any (r s : Int) (w : World) (hr : (Lit.int .i64 r).wf = true) :
    Calls Try.prog 7 #[.int .i64 r, .int .i64 s] w fun e w' => e = .returned (.int .u64 (codeV r s)) ∧ Below w.heap.size w w' := by
  have hmm := @run_makeMap Try.prog
  have m0 := Mq.made w
  go_enter Try.func7, Try.ntmps7
  go_upto_region 2 with (refine wpMq_insert _ _ rfl _ _ _ rfl _ _ _ rfl (by assumption) (by omega) _ _ rfl (by decide) rfl (by decide) ?_; intro w1 m1)
  have hs1 : w.heap.size + 1 ≤ w1.heap.size := by have := m1.1.size; rw [World.size_alloc] at this; exact this
  have m2 := Mq.made w1
  go_upto_region 3 with (refine wpMq_insert _ _ rfl _ _ _ rfl _ _ _ rfl (by assumption) (by omega) _ _ rfl (by decide) rfl (by decide) ?_; intro w2 m3)
  have hs2 : w1.heap.size + 1 ≤ w2.heap.size := by have := m3.1.size; rw [World.size_alloc] at this; exact this
  have H2 : Hid (Mo w2 w.heap.size 10 two) := (Mo.keep m1.2 ((Keeps.refl (fun k => k = w1.heap.size) w1).alloc _) (by omega)).keep m3.1 (by omega)
  have H3 : Hid (Mo w2 w1.heap.size 10 three) := m3.2
  have HK : Hid (Below w.heap.size w w2) := Keeps.below (Below.alloc (Keeps.below ((Below.refl w.heap.size w).alloc (Nat.le_refl _) _) m1.1 (by simp) (fun k hk => by omega)) (by omega) _) m3.1 (by simp; omega) (fun k hk => by omega)
  have HR := Lib.hid hr
  clear hr m1 m2 m3 hmm
  by_cases h2 : s = 2
  · subst h2
    go_wp2_with (at_lookup; refine halt ?_)
    refine Halted.go (wpMo_lookup _ rfl _ _ rfl w.heap.size 10 two rfl H2.out r rfl HR.out ?_)
    have he : codeV r 2 = (two r).getD 2 := rfl
    have HE := Lib.hid he
    clear he
    generalize two r = o at *
    cases o with
    | none =>
      go_wp2_with fail
      go_returns
      rw [HE.out]
      exact ⟨rfl, HK.out⟩
    | some v =>
      go_wp2_with fail
      go_returns
      rw [HE.out]
      exact ⟨rfl, HK.out⟩
  · by_cases h3 : s = 3
    · subst h3
      go_wp2_with (at_lookup; refine halt ?_)
      refine Halted.go (wpMo_lookup _ rfl _ _ rfl w1.heap.size 10 three rfl H3.out r rfl HR.out ?_)
      have he : codeV r 3 = (three r).getD 258 := rfl
      have HE := Lib.hid he
      clear he
      generalize three r = o at *
      cases o with
      | none =>
        go_wp2_with fail
        go_returns
        rw [HE.out]
        exact ⟨rfl, HK.out⟩
      | some v =>
        go_wp2_with fail
        go_returns
        rw [HE.out]
        exact ⟨rfl, HK.out⟩
    · have HE : Hid (codeV r s = 0) := by show _ = _; unfold codeV; rw [if_neg h2, if_neg h3]
      go_wp2_with fail
      go_returns
      rw [HE.out]
      exact ⟨rfl, HK.out⟩

set_option maxHeartbeats 1600000 in
theorem coder_any (r s : Int) (w : World) :
    Calls Try.prog 8 #[.int .i64 r, .int .i64 s] w fun e w' => e = .returned (.int .u64 (codeV r s)) ∧ Below w.heap.size w w' := by
  by_cases h2 : s = 2
  · subst h2
    go_enter Try.func8, Try.ntmps8
    go_wp2_with fail
    all_goals (go_returns; exact ⟨by (simp only [beq_iff_eq, beq_eq_false_iff_ne, ne_eq] at *; simp [codeV, two, *]), Below.refl _ _⟩)
  · by_cases h3 : s = 3
    · subst h3
      go_enter Try.func8, Try.ntmps8
      go_wp2_with fail
      all_goals (go_returns; exact ⟨by (simp only [beq_iff_eq, beq_eq_false_iff_ne, ne_eq] at *; simp [codeV, three, *]), Below.refl _ _⟩)
    · have e2 : (s != 2) = true := by simpa using h2
      have e3 : (s != 3) = true := by simpa using h3
      go_enter Try.func8, Try.ntmps8
      go_wp2_with fail
      go_returns
      exact ⟨by simp [codeV, h2, h3], Below.refl _ _⟩

end Go.Proofs.Ytcckdahpagkbaaa
