/- The steps of a region whose order is open that write or make memory: a store, a row that is made, append. No program in sight. -/
import Derived.Test.YtcfljnlfikkhaaaHeld
import Derived.Test.YtcfljnlfikkhaaaB
namespace Go.Proofs.Ytcfljnlfikkhaaa
open Go.RowKit Go.Deep

section
variable {P : Program} {ops : Array Oper} {Q : Exit → Act → World → Prop} {md : Region.Mode} {S : World → Prop}

/-- One operation alone may come up: it yields a value, and the world behind it is w'. -/
theorem held_do {i : Nat} {o : Oper} {fuel : Nat} {listed : Array Bool} {a : Act} {w : World} (v : Value) (w' : World) (ho : ops[i]? = some o) (hr : Region.ready md ops listed = [i]) (hw : Region.wanted o (yielded ops a.tmps) = true)
    (hrun : (execOp a.eval o).run P w = .ok (.value v) w') (hS : S w')
    (h : wpAnyH P md ops Q S fuel (listed.setIfInBounds i true) (a.put o.dst v) w') : wpAnyH P md ops Q S (fuel + 1) listed a w := by
  refine wpAnyH_all hr (by simp) (fun j hj => ?_)
  obtain rfl : j = i := by simpa using hj
  refine wpOp_step ho fun K hK => ?_
  rw [if_pos hw]
  unfold Oper.wp
  rw [hrun, Oper.upon_value]
  exact hK _ _ ⟨hS, h⟩

/-- .. a store. -/
theorem held_skip {i : Nat} {o : Oper} {fuel : Nat} {listed : Array Bool} {a : Act} {w : World} (w' : World) (ho : ops[i]? = some o) (hr : Region.ready md ops listed = [i]) (hw : Region.wanted o (yielded ops a.tmps) = true)
    (hrun : (execOp a.eval o).run P w = .ok .skip w') (hS : S w')
    (h : wpAnyH P md ops Q S fuel (listed.setIfInBounds i true) (a.put o.dst undef) w') : wpAnyH P md ops Q S (fuel + 1) listed a w := by
  refine wpAnyH_all hr (by simp) (fun j hj => ?_)
  obtain rfl : j = i := by simpa using hj
  refine wpOp_step ho fun K hK => ?_
  rw [if_pos hw]
  unfold Oper.wp
  rw [hrun, Oper.upon_skip]
  exact hK _ _ ⟨hS, h⟩

/-- .. append. -/
theorem held_app {i : Nat} {o : Oper} {fuel : Nat} {listed : Array Bool} {ac : Act} {w : World} (ho : ops[i]? = some o) (hr : Region.ready md ops listed = [i]) (hw : Region.wanted o (yielded ops ac.tmps) = true)
    (s x : Operand) (t tx : TypeId) (hop : o.op = Op.call { callee := Callee.builtin Builtin.append, args := #[s, x], argTypes := #[t, tx] }) (base : Nat) (e : TypeId) (inf : TypeInfo) (z : Value) (size bytes : Nat)
    (h1 : P.underlying t = some (.slice e)) (h2 : P.info? e = some inf) (h3 : inf.zero = some z) (h4 : inf.size = size) (h5 : inf.bytes = bytes) (h6 : z.cells.size = size)
    (a : Option Addr) (n cap : Nat) (cs : List Value) (hs : ac.eval s = .slice a n cap) (hd : Dst base e size w a n cap cs) (u : Value) (hx : ac.eval x = u) (m : Nat) (news : List Value) (hsrc : Src P size tx u m news w)
    (b1 : n + m ≤ maxLen) (b2 : (n + m) * bytes ≤ 140737488355328) (hb : base ≤ w.heap.size)
    (hK : ∀ a' cap' w', Dst base e size w' a' (n + m) cap' (cs ++ news) → Keeps (mine base a) w w' → Near base w a a' →
      (0 < m → w'.ownsRow base e size (.slice a' (n + m) cap') (n + m) (cs ++ news)) → (m = 0 → cap' = cap ∧ a' = a ∧ w' = w) →
        S w' ∧ wpAnyH P md ops Q S fuel (listed.setIfInBounds i true) (ac.put o.dst (.slice a' (n + m) cap')) w') : wpAnyH P md ops Q S (fuel + 1) listed ac w := by
  refine wpAnyH_all hr (by simp) (fun j hj => ?_)
  obtain rfl : j = i := by simpa using hj
  refine wpOp_step ho fun K hK' => ?_
  rw [if_pos hw]
  obtain ⟨a', cap', w', hrun, r1, r2, r3, r4, r5⟩ := run_app (P := P) w base t tx o.type e inf z size bytes h1 h2 h3 h4 h5 h6 a n cap cs hd u m news hsrc b1 b2 hb
  unfold Oper.wp
  simp [execOp, hop, resolve, invoke, builtin, hs, hx, hrun, Result.andThen]
  exact hK' _ _ (hK a' cap' w' r1 r2 r3 r4 r5)

end
end Go.Proofs.Ytcfljnlfikkhaaa
