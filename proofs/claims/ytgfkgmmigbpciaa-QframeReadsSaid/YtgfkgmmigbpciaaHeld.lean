import Derived.Test.YtgfkgmmigbpciaaW
import Derived.OrdersHeld
import Derived.RegionTactic
import Derived.Test.YtgfkgmmigbpciaaB
import Derived.Test.YtgfkgmmigbpciaaNumF
import Derived.Test.YtgfkgmmigbpciaaNumI
import Derived.Lib.AppendZeros
/- The steps of a region whose order is open, one by one. No program in sight. -/
namespace Go.Proofs.Ytgfkgmmigbpciaa
set_option linter.unusedSimpArgs false
set_option linter.unusedVariables false
open Go.RowKit

section
variable {P : Program} {ops : Array Oper} {Q : Exit → Act → World → Prop} {md : Region.Mode} {S : World → Prop}

/-- One operation alone may come up: a call. -/
theorem held_call {i : Nat} {o : Oper} {fuel : Nat} {listed : Array Bool} {a : Act} {w : World} (f : FuncId) (args : Array Value) (ho : ops[i]? = some o) (hr : Region.ready md ops listed = [i]) (hw : Region.wanted o (yielded ops a.tmps) = true)
  (hrun : (execOp a.eval o).run P w = .ok (.enter f args) w)
  (h : Calls P f args w fun e w' => ∃ v, e = .returned v ∧ S w' ∧ wpAnyH P md ops Q S fuel (listed.setIfInBounds i true) (a.put o.dst v) w') : wpAnyH P md ops Q S (fuel + 1) listed a w := by
 refine wpAnyH_all hr (by simp) (fun j hj => ?_)
 obtain rfl : j = i := by simpa using hj
 refine wpOp_step ho fun K hK => ?_
 rw [if_pos hw]
 unfold Oper.wp
 rw [hrun, Oper.upon_enter]
 refine Calls.mono h ?_
 rintro e w' ⟨v, rfl, h1, h2⟩
 exact hK _ _ ⟨h1, h2⟩

end
end Go.Proofs.Ytgfkgmmigbpciaa

/- The steps of a region whose order is open that write or make memory: a store, a row that is made, append. No program in sight. -/
namespace Go.Proofs.Ytgfkgmmigbpciaa
set_option linter.unusedSimpArgs false
set_option linter.unusedVariables false
open Go.RowKit Go.Deep

section
variable {P : Program} {ops : Array Oper} {Q : Exit → Act → World → Prop} {md : Region.Mode} {S : World → Prop}

/-- One operation alone may come up: it yields a value, and the world behind it is w'. -/
theorem held_do {i : Nat} {o : Oper} {fuel : Nat} {listed : Array Bool} {a : Act} {w : World} (v : Value) (w' : World) (ho : ops[i]? = some o) (hr : Region.ready md ops listed = [i]) (hw : Region.wanted o (yielded ops a.tmps) = true)
  (hrun : (execOp a.eval o).run P w = .ok (.value v) w') (hS : S w')
  (h : wpAnyH P md ops Q S fuel (listed.setIfInBounds i true) (a.put o.dst v) w') : wpAnyH P md ops Q S (fuel + 1) listed a w := by
 refine wpAnyH_all hr (by simp) (fun j hj => ?_)
 obtain rfl : j = i := by simpa using hj
 refine wpOp_step ho fun K hK => ?_
 rw [if_pos hw]
 unfold Oper.wp
 rw [hrun, Oper.upon_value]
 exact hK _ _ ⟨hS, h⟩

/-- .. a store. -/
theorem held_skip {i : Nat} {o : Oper} {fuel : Nat} {listed : Array Bool} {a : Act} {w : World} (w' : World) (ho : ops[i]? = some o) (hr : Region.ready md ops listed = [i]) (hw : Region.wanted o (yielded ops a.tmps) = true)
  (hrun : (execOp a.eval o).run P w = .ok .skip w') (hS : S w')
  (h : wpAnyH P md ops Q S fuel (listed.setIfInBounds i true) (a.put o.dst undef) w') : wpAnyH P md ops Q S (fuel + 1) listed a w := by
 refine wpAnyH_all hr (by simp) (fun j hj => ?_)
 obtain rfl : j = i := by simpa using hj
 refine wpOp_step ho fun K hK => ?_
 rw [if_pos hw]
 unfold Oper.wp
 rw [hrun, Oper.upon_skip]
 exact hK _ _ ⟨hS, h⟩

/-- .. append. -/
theorem held_app {i : Nat} {o : Oper} {fuel : Nat} {listed : Array Bool} {ac : Act} {w : World} (ho : ops[i]? = some o) (hr : Region.ready md ops listed = [i]) (hw : Region.wanted o (yielded ops ac.tmps) = true)
  (s x : Operand) (t tx : TypeId) (hop : o.op = Op.call { callee := Callee.builtin Builtin.append, args := #[s, x], argTypes := #[t, tx] }) (base : Nat) (e : TypeId) (inf : TypeInfo) (z : Value) (size bytes : Nat)
  (h1 : P.underlying t = some (.slice e)) (h2 : P.info? e = some inf) (h3 : inf.zero = some z) (h4 : inf.size = size) (h5 : inf.bytes = bytes) (h6 : z.cells.size = size)
  (a : Option Addr) (n cap : Nat) (cs : List Value) (hs : ac.eval s = .slice a n cap) (hd : Dst base e size w a n cap cs) (u : Value) (hx : ac.eval x = u) (m : Nat) (news : List Value) (hsrc : Src P size tx u m news w)
  (b1 : n + m ≤ maxLen) (b2 : (n + m) * bytes ≤ 140737488355328) (hb : base ≤ w.heap.size)
  (hK : ∀ a' cap' w', Dst base e size w' a' (n + m) cap' (cs ++ news) → Keeps (mine base a) w w' → Near base w a a' →
   (0 < m → w'.ownsRow base e size (.slice a' (n + m) cap') (n + m) (cs ++ news)) → (m = 0 → cap' = cap ∧ a' = a ∧ w' = w) →
    S w' ∧ wpAnyH P md ops Q S fuel (listed.setIfInBounds i true) (ac.put o.dst (.slice a' (n + m) cap')) w') : wpAnyH P md ops Q S (fuel + 1) listed ac w := by
 refine wpAnyH_all hr (by simp) (fun j hj => ?_)
 obtain rfl : j = i := by simpa using hj
 refine wpOp_step ho fun K hK' => ?_
 rw [if_pos hw]
 obtain ⟨a', cap', w', hrun, r1, r2, r3, r4, r5⟩ := run_app (P := P) w base t tx o.type e inf z size bytes h1 h2 h3 h4 h5 h6 a n cap cs hd u m news hsrc b1 b2 hb
 unfold Oper.wp
 simp [execOp, hop, resolve, invoke, builtin, hs, hx, hrun, Result.andThen]
 exact hK' _ _ (hK a' cap' w' r1 r2 r3 r4 r5)

end
end Go.Proofs.Ytgfkgmmigbpciaa

/- A region whose order is open and whose last operation z writes what an earlier one has read: a condition on the world that holds behind each operation but z. No program in sight. -/
namespace Go.Proofs.Ytgfkgmmigbpciaa
set_option linter.unusedSimpArgs false
set_option linter.unusedVariables false
open Go.RowKit Go.Deep

section
variable {P : Program} {ops : Array Oper} {Q : Exit → Act → World → Prop} {md : Region.Mode} {S : World → Prop} {z : Nat}

/-- Whatever order is drawn from here on; S holds behind each operation but z. -/
def wpAnyZ (P : Program) (md : Region.Mode) (ops : Array Oper) (Q : Exit → Act → World → Prop) (S : World → Prop) (z : Nat) : Nat → Array Bool → Act → World → Prop
 | 0, l, a, w => Region.ready md ops l = [] ∧ Q .normal a w
 | n + 1, l, a, w => (Region.ready md ops l = [] → Q .normal a w) ∧
   ∀ i ∈ Region.ready md ops l, wpOp P ops Q i (fun a' w' => (i ≠ z → S w') ∧ wpAnyZ P md ops Q S z n (l.setIfInBounds i true) a' w') a w

theorem wpAnyZ_any : ∀ (n : Nat) (l : Array Bool) (a : Act) (w : World), wpAnyZ P md ops Q S z n l a w → wpAny P md ops Q n l a w
 | 0, _, _, _, h => h
 | n + 1, _, _, _, h => ⟨h.1, fun i hi => wpOp_mono (fun a' w' k => wpAnyZ_any n _ a' w' k.2) (h.2 i hi)⟩

/-- Does z wait for i? -/
def waitsB (md : Region.Mode) (ops : Array Oper) (z i : Nat) : Bool := ((ops[z]?).map fun o => o.after.any fun e => Region.binds md e && e.on == i).getD false

theorem waitsB_not {i : Nat} {l : Array Bool} (hw : waitsB md ops z i = true) (hu : l.getD i true = false) : z ∉ Region.ready md ops l := by
 intro hz
 obtain ⟨_, oz, hoz, hall⟩ := mem_ready.1 hz
 unfold waitsB at hw
 rw [hoz] at hw
 simp only [Option.map_some, Option.getD_some, Array.any_eq_true', Bool.and_eq_true, beq_iff_eq] at hw
 obtain ⟨e, he, hb, rfl⟩ := hw
 have h1 := hall e he hb
 rcases Nat.lt_or_ge e.on l.size with h' | h'
 ·simp [h'] at hu h1; rw [hu] at h1; cases h1
 ·simp [Array.getElem?_eq_none h'] at h1

theorem z_first {i : Nat} {oi : Oper} {v : Value} (hi : ops[i]? = some oi) (hsel : ∀ (j : Nat) (o : Oper) cs b, ops[j]? = some o → o.op ≠ .select cs b)
  (hQ : ∀ c a w, Q (.panic c) (a.put oi.dst v) w → Q (.panic c) a w) (hw : waitsB md ops z i = true) :
  ∀ (n : Nat) (l : Array Bool) (a : Act) (w : World),
   (∀ j oj, ops[j]? = some oj → j ≠ i → l.getD j true = false → (∀ e ∈ oj.after, Region.binds md e = true → e.on ≠ i) → oi.apart ops oj = true) →
   i ∈ Region.ready md ops l → YieldsIf P ops S oi v a → S w →
   wpAnyZ P md ops Q S z n (l.setIfInBounds i true) (a.put oi.dst v) w → wpAnyZ P md ops Q S z (n + 1) l a w := by
 intro n
 induction n with
 | zero =>
  intro l a w _ hr hy hS H
  refine ⟨fun h => (by rw [h] at hr; cases hr), fun j hj => ?_⟩
  rcases Decidable.em (j = i) with rfl | hne
  ·exact hy.wpOp hi hS ⟨fun _ => hS, H⟩
  ·exact absurd (ready_mono hj hne) (by rw [H.1]; exact List.not_mem_nil)
 | succ n ih =>
  intro l a w hfree hr hy hS H
  refine ⟨fun h => (by rw [h] at hr; cases hr), fun j hj => ?_⟩
  rcases Decidable.em (j = i) with rfl | hne
  ·exact hy.wpOp hi hS ⟨fun _ => hS, H⟩
  have hui := (mem_ready.1 hr).1
  have hjz : j ≠ z := fun e => waitsB_not hw hui (e ▸ hj)
  obtain ⟨huj, oj, hoj, hall⟩ := mem_ready.1 hj
  have hno : ∀ e ∈ oj.after, Region.binds md e = true → e.on ≠ i := fun e he hb h => by
   have h1 := h ▸ hall e he hb
   rcases Nat.lt_or_ge i l.size with h' | h'
   ·simp [h'] at hui h1; rw [hui] at h1; cases h1
   ·simp [Array.getElem?_eq_none h'] at h1
  have hstep := wpOp_putIf hoj (hfree j oj hoj hne huj hno) (fun cs b => hsel i oi cs b hi) (fun cs b => hsel j oj cs b hoj) hQ hy (H.2 j (ready_mono hj hne))
  refine wpOp_mono (fun a' w' h => ⟨fun _ => h.2.1 hjz, ih (l.setIfInBounds j true) a' w' ?_ (ready_mono hr (Ne.symm hne)) h.1 (h.2.1 hjz) ?_⟩) hstep
  ·intro k ok hk hki hun hno'
   refine hfree k ok hk hki ?_ hno'
   rcases Decidable.em (j = k) with rfl | hjk
   ·exact huj
   ·rw [getD_set_ne true hjk] at hun; exact hun
  ·rw [Array.setIfInBounds_comm _ _ hne]
   exact h.2.2

theorem z_begin {id : Nat} {a : Act} {w : World} (S : World → Prop) (z : Nat) (hm : P.follows .mixedOrders = true)
  (h : wpAnyZ P .any ops Q S z ops.size (Array.replicate ops.size false) a w.drew) : (Code.region id ops true).wp P Q a w :=
 wp_region_any hm (wpAnyZ_any _ _ _ _ h)

theorem z_take {i : Nat} {oi : Oper} {v : Value} {n : Nat} {l : Array Bool} {a : Act} {w : World} (hi : ops[i]? = some oi)
  (hs : Region.noSelect ops = true) (hf : Region.free md ops l i = true) (hr : (Region.ready md ops l).contains i = true) (hw : waitsB md ops z i = true)
  (hQ : ∀ c a w, Q (.panic c) (a.put oi.dst v) w → Q (.panic c) a w) (hy : YieldsIf P ops S oi v a) (hS : S w)
  (h : wpAnyZ P md ops Q S z n (l.setIfInBounds i true) (a.put oi.dst v) w) : wpAnyZ P md ops Q S z (n + 1) l a w :=
 z_first hi (Region.noSelect_spec hs) hQ hw n l a w (Region.free_spec hi hf) (by simpa using hr) hy hS h

theorem z_one {i : Nat} {o : Oper} {n : Nat} {l : Array Bool} {a : Act} {w : World} (ho : ops[i]? = some o) (hr : Region.ready md ops l = [i]) (hw : Region.wanted o (yielded ops a.tmps) = true)
  (h : ∀ K : Act → World → Prop, (∀ a' w', (i ≠ z → S w') → wpAnyZ P md ops Q S z n (l.setIfInBounds i true) a' w' → K a' w') → Oper.wp P o a w K Q) : wpAnyZ P md ops Q S z (n + 1) l a w := by
 refine ⟨fun h0 => (by rw [h0] at hr; cases hr), fun j hj => ?_⟩
 obtain rfl : j = i := by rw [hr] at hj; simpa using hj
 refine wpOp_step ho fun K hK => ?_
 rw [if_pos hw]
 exact h K (fun a' w' h1 h2 => hK a' w' ⟨h1, h2⟩)

theorem z_do {i : Nat} {o : Oper} {n : Nat} {l : Array Bool} {a : Act} {w : World} (v : Value) (w' : World) (ho : ops[i]? = some o) (hr : Region.ready md ops l = [i]) (hw : Region.wanted o (yielded ops a.tmps) = true)
  (hrun : (execOp a.eval o).run P w = .ok (.value v) w') (hS : S w')
  (h : wpAnyZ P md ops Q S z n (l.setIfInBounds i true) (a.put o.dst v) w') : wpAnyZ P md ops Q S z (n + 1) l a w := by
 refine z_one ho hr hw fun K hK => ?_
 unfold Oper.wp
 rw [hrun, Oper.upon_value]
 exact hK _ _ (fun _ => hS) h

theorem z_app {i : Nat} {o : Oper} {n : Nat} {l : Array Bool} {ac : Act} {w : World} (ho : ops[i]? = some o) (hr : Region.ready md ops l = [i]) (hw : Region.wanted o (yielded ops ac.tmps) = true)
  (s x : Operand) (t tx : TypeId) (hop : o.op = Op.call { callee := Callee.builtin Builtin.append, args := #[s, x], argTypes := #[t, tx] }) (base : Nat) (e : TypeId) (inf : TypeInfo) (zv : Value) (size bytes : Nat)
  (h1 : P.underlying t = some (.slice e)) (h2 : P.info? e = some inf) (h3 : inf.zero = some zv) (h4 : inf.size = size) (h5 : inf.bytes = bytes) (h6 : zv.cells.size = size)
  (a : Option Addr) (len cap : Nat) (cs : List Value) (hs : ac.eval s = .slice a len cap) (hd : Dst base e size w a len cap cs) (u : Value) (hx : ac.eval x = u) (m : Nat) (news : List Value) (hsrc : Src P size tx u m news w)
  (b1 : len + m ≤ maxLen) (b2 : (len + m) * bytes ≤ 140737488355328) (hb : base ≤ w.heap.size)
  (hK : ∀ a' cap' w', Dst base e size w' a' (len + m) cap' (cs ++ news) → Keeps (mine base a) w w' → Near base w a a' →
   (0 < m → w'.ownsRow base e size (.slice a' (len + m) cap') (len + m) (cs ++ news)) → (m = 0 → cap' = cap ∧ a' = a ∧ w' = w) →
    S w' ∧ wpAnyZ P md ops Q S z n (l.setIfInBounds i true) (ac.put o.dst (.slice a' (len + m) cap')) w') : wpAnyZ P md ops Q S z (n + 1) l ac w := by
 refine z_one ho hr hw fun K hK' => ?_
 obtain ⟨a', cap', w', hrun, r1, r2, r3, r4, r5⟩ := run_app (P := P) w base t tx o.type e inf zv size bytes h1 h2 h3 h4 h5 h6 a len cap cs hd u m news hsrc b1 b2 hb
 have hh := hK a' cap' w' r1 r2 r3 r4 r5
 unfold Oper.wp
 simp [execOp, hop, resolve, invoke, builtin, hs, hx, hrun, Result.andThen]
 exact hK' _ _ (fun _ => hh.1) hh.2

/-- The last operation: a store. -/
theorem z_last {o : Oper} {n : Nat} {l : Array Bool} {a : Act} {w : World} (w' : World) (ho : ops[z]? = some o) (hr : Region.ready md ops l = [z]) (hw : Region.wanted o (yielded ops a.tmps) = true)
  (hrun : (execOp a.eval o).run P w = .ok .skip w') (hr' : Region.ready md ops (l.setIfInBounds z true) = [])
  (h : Q .normal (a.put o.dst undef) w') : wpAnyZ P md ops Q S z (n + 1) l a w := by
 refine z_one ho hr hw fun K hK => ?_
 unfold Oper.wp
 rw [hrun, Oper.upon_skip]
 refine hK _ _ (fun h => absurd rfl h) ?_
 cases n with
 | zero => exact ⟨hr', h⟩
 | succ n => exact ⟨fun _ => h, by rw [hr']; simp⟩

end
end Go.Proofs.Ytgfkgmmigbpciaa

/- A region whose order is open and one of whose operations, z, writes what an earlier one has read: a condition S0 that holds behind each operation, and a condition S that holds as long as z has not come up. No program in sight. -/
namespace Go.Proofs.Ytgfkgmmigbpciaa
set_option linter.unusedSimpArgs false
set_option linter.unusedVariables false
open Go.RowKit Go.Deep

section
variable {P : Program} {ops : Array Oper} {Q : Exit → Act → World → Prop} {md : Region.Mode} {S0 S : World → Prop} {z : Nat}

/-- Whatever order is drawn from here on; S0 holds behind each operation, S while z is still to come. -/
def wpAnyY (P : Program) (md : Region.Mode) (ops : Array Oper) (Q : Exit → Act → World → Prop) (S0 S : World → Prop) (z : Nat) : Nat → Array Bool → Act → World → Prop
 | 0, l, a, w => Region.ready md ops l = [] ∧ Q .normal a w
 | n + 1, l, a, w => (Region.ready md ops l = [] → Q .normal a w) ∧
   ∀ i ∈ Region.ready md ops l, wpOp P ops Q i (fun a' w' => (S0 w' ∧ ((l.setIfInBounds i true).getD z true = false → S w')) ∧ wpAnyY P md ops Q S0 S z n (l.setIfInBounds i true) a' w') a w

theorem wpAnyY_any : ∀ (n : Nat) (l : Array Bool) (a : Act) (w : World), wpAnyY P md ops Q S0 S z n l a w → wpAny P md ops Q n l a w
 | 0, _, _, _, h => h
 | n + 1, _, _, _, h => ⟨h.1, fun i hi => wpOp_mono (fun a' w' k => wpAnyY_any n _ a' w' k.2) (h.2 i hi)⟩

/-- Does z wait for i? -/
def waitsY (md : Region.Mode) (ops : Array Oper) (z i : Nat) : Bool := ((ops[z]?).map fun o => o.after.any fun e => Region.binds md e && e.on == i).getD false

theorem waitsY_not {i : Nat} {l : Array Bool} (hw : waitsY md ops z i = true) (hu : l.getD i true = false) : z ∉ Region.ready md ops l := by
 intro hz
 obtain ⟨_, oz, hoz, hall⟩ := mem_ready.1 hz
 unfold waitsY at hw
 rw [hoz] at hw
 simp only [Option.map_some, Option.getD_some, Array.any_eq_true', Bool.and_eq_true, beq_iff_eq] at hw
 obtain ⟨e, he, hb, rfl⟩ := hw
 have h1 := hall e he hb
 rcases Nat.lt_or_ge e.on l.size with h' | h'
 ·simp [h'] at hu h1; rw [hu] at h1; cases h1
 ·simp [Array.getElem?_eq_none h'] at h1

/-- Each of a chain waits for the one ahead of it. -/
def chainY (md : Region.Mode) (ops : Array Oper) : Nat → List Nat → Bool
 | _, [] => true
 | i, p :: ps => waitsY md ops p i && chainY md ops p ps

theorem chainY_not {l : Array Bool} : ∀ (ps : List Nat) (i : Nat), chainY md ops i ps = true → l.getD i true = false → (∀ p ∈ ps, l.getD p true = false) → ∀ p ∈ ps, p ∉ Region.ready md ops l
 | [], _, _, _, _ => fun p hp => by cases hp
 | q :: qs, i, hc, hi, hl => fun p hp => by
  simp only [chainY, Bool.and_eq_true] at hc
  rcases List.mem_cons.1 hp with rfl | hp
  ·exact waitsY_not hc.1 hi
  ·exact chainY_not qs q hc.2 (hl q (List.mem_cons_self ..)) (fun r hr => hl r (List.mem_cons_of_mem _ hr)) p hp

theorem y_first0 {i : Nat} {oi : Oper} {v : Value} (hi : ops[i]? = some oi) (hsel : ∀ (j : Nat) (o : Oper) cs b, ops[j]? = some o → o.op ≠ .select cs b)
  (hQ : ∀ c a w, Q (.panic c) (a.put oi.dst v) w → Q (.panic c) a w) (hiz : i ≠ z) :
  ∀ (n : Nat) (l : Array Bool) (a : Act) (w : World),
   (∀ j oj, ops[j]? = some oj → j ≠ i → l.getD j true = false → (∀ e ∈ oj.after, Region.binds md e = true → e.on ≠ i) → oi.apart ops oj = true) →
   i ∈ Region.ready md ops l → YieldsIf P ops S0 oi v a → (S0 w ∧ (l.getD z true = false → S w)) →
   wpAnyY P md ops Q S0 S z n (l.setIfInBounds i true) (a.put oi.dst v) w → wpAnyY P md ops Q S0 S z (n + 1) l a w := by
 intro n
 induction n with
 | zero =>
  intro l a w _ hr hy hS H
  refine ⟨fun h => (by rw [h] at hr; cases hr), fun j hj => ?_⟩
  rcases Decidable.em (j = i) with rfl | hne
  ·exact hy.wpOp hi hS.1 ⟨⟨hS.1, fun e => hS.2 (by rwa [getD_set_ne true hiz] at e)⟩, H⟩
  ·exact absurd (ready_mono hj hne) (by rw [H.1]; exact List.not_mem_nil)
 | succ n ih =>
  intro l a w hfree hr hy hS H
  refine ⟨fun h => (by rw [h] at hr; cases hr), fun j hj => ?_⟩
  have hui := (mem_ready.1 hr).1
  rcases Decidable.em (j = i) with rfl | hne
  ·exact hy.wpOp hi hS.1 ⟨⟨hS.1, fun e => hS.2 (by rwa [getD_set_ne true hiz] at e)⟩, H⟩
  obtain ⟨huj, oj, hoj, hall⟩ := mem_ready.1 hj
  have hno : ∀ e ∈ oj.after, Region.binds md e = true → e.on ≠ i := fun e he hb h => by
   have h1 := h ▸ hall e he hb
   rcases Nat.lt_or_ge i l.size with h' | h'
   ·simp [h'] at hui h1; rw [hui] at h1; cases h1
   ·simp [Array.getElem?_eq_none h'] at h1
  have hst := wpOp_putIf hoj (hfree j oj hoj hne huj hno) (fun cs b => hsel i oi cs b hi) (fun cs b => hsel j oj cs b hoj) hQ hy (H.2 j (ready_mono hj hne))
  refine wpOp_mono (fun a' w' h => ?_) hst
  have hS' : S0 w' ∧ ((l.setIfInBounds j true).getD z true = false → S w') := ⟨h.2.1.1, fun e => h.2.1.2 (by rw [Array.setIfInBounds_comm _ _ (Ne.symm hne), getD_set_ne true hiz]; exact e)⟩
  refine ⟨hS', ih (l.setIfInBounds j true) a' w' ?_ (ready_mono hr (Ne.symm hne)) h.1 hS' ?_⟩
  ·intro k ok hk hki hun hno'
   refine hfree k ok hk hki ?_ hno'
   rcases Decidable.em (j = k) with rfl | hjk
   ·exact huj
   ·rw [getD_set_ne true hjk] at hun; exact hun
  ·rw [Array.setIfInBounds_comm _ _ hne]
   exact h.2.2

theorem y_firstS {i : Nat} {oi : Oper} {v : Value} (hi : ops[i]? = some oi) (hsel : ∀ (j : Nat) (o : Oper) cs b, ops[j]? = some o → o.op ≠ .select cs b)
  (hQ : ∀ c a w, Q (.panic c) (a.put oi.dst v) w → Q (.panic c) a w) (hiz : i ≠ z) (ps : List Nat) (hzp : z ∈ ps) (hw : chainY md ops i ps = true) :
  ∀ (n : Nat) (l : Array Bool) (a : Act) (w : World),
   (∀ j oj, ops[j]? = some oj → j ≠ i → l.getD j true = false → (∀ e ∈ oj.after, Region.binds md e = true → e.on ≠ i) → oi.apart ops oj = true) →
   i ∈ Region.ready md ops l → YieldsIf P ops S oi v a → (S0 w ∧ (l.getD z true = false → S w)) → (∀ p ∈ ps, l.getD p true = false) →
   wpAnyY P md ops Q S0 S z n (l.setIfInBounds i true) (a.put oi.dst v) w → wpAnyY P md ops Q S0 S z (n + 1) l a w := by
 intro n
 induction n with
 | zero =>
  intro l a w _ hr hy hS hlz H
  refine ⟨fun h => (by rw [h] at hr; cases hr), fun j hj => ?_⟩
  rcases Decidable.em (j = i) with rfl | hne
  ·exact hy.wpOp hi (hS.2 (hlz z hzp)) ⟨⟨hS.1, fun e => hS.2 (by rwa [getD_set_ne true hiz] at e)⟩, H⟩
  ·exact absurd (ready_mono hj hne) (by rw [H.1]; exact List.not_mem_nil)
 | succ n ih =>
  intro l a w hfree hr hy hS hlz H
  refine ⟨fun h => (by rw [h] at hr; cases hr), fun j hj => ?_⟩
  have hui := (mem_ready.1 hr).1
  rcases Decidable.em (j = i) with rfl | hne
  ·exact hy.wpOp hi (hS.2 (hlz z hzp)) ⟨⟨hS.1, fun e => hS.2 (by rwa [getD_set_ne true hiz] at e)⟩, H⟩
  obtain ⟨huj, oj, hoj, hall⟩ := mem_ready.1 hj
  have hno : ∀ e ∈ oj.after, Region.binds md e = true → e.on ≠ i := fun e he hb h => by
   have h1 := h ▸ hall e he hb
   rcases Nat.lt_or_ge i l.size with h' | h'
   ·simp [h'] at hui h1; rw [hui] at h1; cases h1
   ·simp [Array.getElem?_eq_none h'] at h1
  have hst := wpOp_putIf hoj (hfree j oj hoj hne huj hno) (fun cs b => hsel i oi cs b hi) (fun cs b => hsel j oj cs b hoj) hQ hy (H.2 j (ready_mono hj hne))
  refine wpOp_mono (fun a' w' h => ?_) hst
  have hS' : S0 w' ∧ ((l.setIfInBounds j true).getD z true = false → S w') := ⟨h.2.1.1, fun e => h.2.1.2 (by rw [Array.setIfInBounds_comm _ _ (Ne.symm hne), getD_set_ne true hiz]; exact e)⟩
  refine ⟨hS', ih (l.setIfInBounds j true) a' w' ?_ (ready_mono hr (Ne.symm hne)) h.1 hS' (fun p hp => by rw [getD_set_ne true (show j ≠ p from fun e => chainY_not ps i hw hui hlz p hp (by subst e; exact hj))]; exact hlz p hp) ?_⟩
  ·intro k ok hk hki hun hno'
   refine hfree k ok hk hki ?_ hno'
   rcases Decidable.em (j = k) with rfl | hjk
   ·exact huj
   ·rw [getD_set_ne true hjk] at hun; exact hun
  ·rw [Array.setIfInBounds_comm _ _ hne]
   exact h.2.2

theorem y_begin {id : Nat} {a : Act} {w : World} (S0 S : World → Prop) (z : Nat) (hm : P.follows .mixedOrders = true)
  (h : wpAnyY P .any ops Q S0 S z ops.size (Array.replicate ops.size false) a w.drew) : (Code.region id ops true).wp P Q a w :=
 wp_region_any hm (wpAnyY_any _ _ _ _ h)

/-- An operation that yields under S0 is taken first. -/
theorem y_take0 {i : Nat} {oi : Oper} {v : Value} {n : Nat} {l : Array Bool} {a : Act} {w : World} (hi : ops[i]? = some oi)
  (hs : Region.noSelect ops = true) (hf : Region.free md ops l i = true) (hr : (Region.ready md ops l).contains i = true) (hiz : i ≠ z)
  (hQ : ∀ c a w, Q (.panic c) (a.put oi.dst v) w → Q (.panic c) a w) (hy : YieldsIf P ops S0 oi v a) (hS : S0 w ∧ (l.getD z true = false → S w))
  (h : wpAnyY P md ops Q S0 S z n (l.setIfInBounds i true) (a.put oi.dst v) w) : wpAnyY P md ops Q S0 S z (n + 1) l a w :=
 y_first0 hi (Region.noSelect_spec hs) hQ hiz n l a w (Region.free_spec hi hf) (by simpa using hr) hy hS h

/-- An operation for which z waits, and that yields under S, is taken first. -/
theorem y_takeS {i : Nat} {oi : Oper} {v : Value} {n : Nat} {l : Array Bool} {a : Act} {w : World} (hi : ops[i]? = some oi)
  (hs : Region.noSelect ops = true) (hf : Region.free md ops l i = true) (hr : (Region.ready md ops l).contains i = true) (hiz : i ≠ z) (ps : List Nat) (hzp : ps.contains z = true) (hw : chainY md ops i ps = true) (hl : (ps.all fun p => l.getD p true == false) = true)
  (hQ : ∀ c a w, Q (.panic c) (a.put oi.dst v) w → Q (.panic c) a w) (hy : YieldsIf P ops S oi v a) (hS : S0 w ∧ (l.getD z true = false → S w))
  (h : wpAnyY P md ops Q S0 S z n (l.setIfInBounds i true) (a.put oi.dst v) w) : wpAnyY P md ops Q S0 S z (n + 1) l a w :=
 y_firstS hi (Region.noSelect_spec hs) hQ hiz ps (by simpa using hzp) hw n l a w (Region.free_spec hi hf) (by simpa using hr) hy hS (fun p hp => by simpa using List.all_eq_true.1 hl p hp) h

/-- .. behind z. -/
theorem y_take1 {i : Nat} {oi : Oper} {v : Value} {n : Nat} {l : Array Bool} {a : Act} {w : World} (hi : ops[i]? = some oi)
  (hs : Region.noSelect ops = true) (hf : Region.free md ops l i = true) (hr : (Region.ready md ops l).contains i = true) (hiz : i ≠ z) (hz : l.getD z true = true)
  (hQ : ∀ c a w, Q (.panic c) (a.put oi.dst v) w → Q (.panic c) a w) (hy : YieldsIf P ops S0 oi v a) (hS : S0 w)
  (h : wpAnyY P md ops Q S0 S z n (l.setIfInBounds i true) (a.put oi.dst v) w) : wpAnyY P md ops Q S0 S z (n + 1) l a w :=
 y_take0 hi hs hf hr hiz hQ hy ⟨hS, fun e => by rw [hz] at e; cases e⟩ h

theorem y_one {i : Nat} {o : Oper} {n : Nat} {l : Array Bool} {a : Act} {w : World} (ho : ops[i]? = some o) (hr : Region.ready md ops l = [i]) (hw : Region.wanted o (yielded ops a.tmps) = true)
  (h : ∀ K : Act → World → Prop, (∀ a' w', (S0 w' ∧ ((l.setIfInBounds i true).getD z true = false → S w')) → wpAnyY P md ops Q S0 S z n (l.setIfInBounds i true) a' w' → K a' w') → Oper.wp P o a w K Q) : wpAnyY P md ops Q S0 S z (n + 1) l a w := by
 refine ⟨fun h0 => (by rw [h0] at hr; cases hr), fun j hj => ?_⟩
 obtain rfl : j = i := by rw [hr] at hj; simpa using hj
 refine wpOp_step ho fun K hK => ?_
 rw [if_pos hw]
 exact h K (fun a' w' h1 h2 => hK a' w' ⟨h1, h2⟩)

/-- The call z. -/
theorem y_call {o : Oper} {n : Nat} {l : Array Bool} {a : Act} {w : World} (f : FuncId) (args : Array Value) (ho : ops[z]? = some o) (hr : Region.ready md ops l = [z]) (hw : Region.wanted o (yielded ops a.tmps) = true)
  (hz : (l.setIfInBounds z true).getD z true = true)
  (hrun : (execOp a.eval o).run P w = .ok (.enter f args) w)
  (h : Calls P f args w fun e w' => ∃ v, e = .returned v ∧ S0 w' ∧ wpAnyY P md ops Q S0 S z n (l.setIfInBounds z true) (a.put o.dst v) w') : wpAnyY P md ops Q S0 S z (n + 1) l a w := by
 refine y_one ho hr hw fun K hK => ?_
 unfold Oper.wp
 rw [hrun, Oper.upon_enter]
 refine Calls.mono h ?_
 rintro e w' ⟨v, rfl, h1, h2⟩
 exact hK _ _ ⟨h1, fun e => by rw [hz] at e; cases e⟩ h2

/-- A store behind z. -/
theorem y_skip {i : Nat} {o : Oper} {n : Nat} {l : Array Bool} {a : Act} {w : World} (w' : World) (ho : ops[i]? = some o) (hr : Region.ready md ops l = [i]) (hw : Region.wanted o (yielded ops a.tmps) = true)
  (hz : (l.setIfInBounds i true).getD z true = true)
  (hrun : (execOp a.eval o).run P w = .ok .skip w') (hS : S0 w')
  (h : wpAnyY P md ops Q S0 S z n (l.setIfInBounds i true) (a.put o.dst undef) w') : wpAnyY P md ops Q S0 S z (n + 1) l a w := by
 refine y_one ho hr hw fun K hK => ?_
 unfold Oper.wp
 rw [hrun, Oper.upon_skip]
 exact hK _ _ ⟨hS, fun e => by rw [hz] at e; cases e⟩ h

theorem y_done {l : Array Bool} {a : Act} {w : World} (hr : Region.ready md ops l = []) (h : Q .normal a w) : ∀ n, wpAnyY P md ops Q S0 S z n l a w
 | 0 => ⟨hr, h⟩
 | _ + 1 => ⟨fun _ => h, by rw [hr]; simp⟩

/-- The frame behind a region that was walked by hand, under a name of its own. -/
theorem then_named {K : Act → World → Prop} {Q' : Exit → Act → World → Prop} {a : Act} {w : World} (h : ∀ b : Act, b = a → Exit.then K Q' .normal b w) : Exit.then K Q' .normal a w := h a rfl

end
end Go.Proofs.Ytgfkgmmigbpciaa

/- append on a row of bytes of one's own: in a region of open order, and outside. -/
namespace Go.Proofs.Ytgfkgmmigbpciaa
set_option linter.unusedSimpArgs false
set_option linter.unusedVariables false
open Go.RowKit Go.Deep

theorem own_app {base : Nat} {w : World} {a : Option Addr} {n cap : Nat} {xs ys : List UInt8} (ho : Bo base w a n cap xs) {a2 : Option Addr} {c2 m : Nat} {w2 : World} (hm : m = ys.length)
  (h1 : 0 < m → w2.ownsRow base 5 1 (.slice a2 (n + m) c2) (n + m) (Bs xs ++ Bs ys)) (h2 : m = 0 → c2 = cap ∧ a2 = a ∧ w2 = w) : Bo base w2 a2 (n + m) c2 (xs ++ ys) := by
 by_cases h0 : m = 0
 ·obtain ⟨rfl, rfl, rfl⟩ := h2 h0
  obtain rfl : ys = [] := List.eq_nil_of_length_eq_zero (by omega)
  subst h0
  simpa using ho
 ·refine ⟨by rw [List.length_append, ← ho.1, hm], ?_⟩
  have h := h1 (by omega)
  rwa [Bs_append] at h

section
variable {ops : Array Oper} {Q : Exit → Act → World → Prop} {md : Region.Mode} {S : World → Prop}

end

theorem mine_ge {base b : Nat} {a : Option Addr} (h : b < base) : ¬ mine base a b := fun k => by have := k.1; omega

end Go.Proofs.Ytgfkgmmigbpciaa

/- make([]byte, n). -/
namespace Go.Proofs.Ytgfkgmmigbpciaa
set_option linter.unusedSimpArgs false
set_option linter.unusedVariables false
open Go.RowKit Go.Deep

end Go.Proofs.Ytgfkgmmigbpciaa

/- append of zeros: append(b, make([]byte, n)...). -/
namespace Go.Proofs.Ytgfkgmmigbpciaa
set_option linter.unusedSimpArgs false
set_option linter.unusedVariables false
open Go.RowKit Go.Deep Go.ChangeShapes Go.WideShapes

theorem zeros_toList (m : Nat) : Builtin.zeroCells (Value.int .u8 0).cells m = (Bs (List.replicate m 0)).toArray := by
 apply Array.ext
 ·simp [Builtin.zeroCells, Bs, Value.cells]
 ·intro i h1 h2
  simp [Builtin.zeroCells, Bs, Value.cells, B]
  have : i % 1 = 0 := by omega
  simp [this]

section
variable {P : Program} (w : World)

theorem run_zeros_grow (t tn ty e : TypeId) (i : TypeInfo) (kn : IntKind) (ht : P.underlying t = some (.slice e)) (htn : P.underlying tn = some (.int kn)) (hi : P.info? e = some i) (hz : i.zero = some (.int .u8 0)) (hsz : i.size = 1) (hby : i.bytes = 1) (base : Option Addr) (sLen sCap : Nat) (olds : List Value)
  (hold : (Builtin.firstCells i.size sLen (.slice base sLen sCap)).run P w.drew = .ok olds.toArray w.drew) (m : Nat) (h0 : 0 < m)
  (hg : sCap < sLen + m) (h63 : sLen + m ≤ 140737488355328) :
  (Builtin.append_ #[t, tn] ty #[.slice base sLen sCap, .int .i64 m]).run P w =
   .ok (.slice (some ⟨w.heap.size, 0, none⟩) (sLen + m) (grownCap w (sLen + m) sCap e))
    (w.drew.alloc (.cells ((olds ++ Bs (List.replicate m 0)).toArray ++ Builtin.zeroCells (Value.int .u8 0).cells (grownCap w (sLen + m) sCap e - (sLen + m))) e)) := by
 have hn : ¬ (sLen + m ≤ sCap) := by omega
 have hfit : Builtin.nextslicecap (sLen + m) sCap * i.bytes ≤ 281474976710656 := growslice_fits hg (by rw [hby]; omega)
 have h63' : ¬ (9223372036854775807 < ((sLen : Int) + (m : Int))) := by omega
 have h48' : ¬ (281474976710656 < Builtin.nextslicecap (sLen + m) sCap) := by rw [hby] at hfit; omega
 have h48i : ¬ (281474976710656 < (m : Int)) := by omega
 have hw : IntKind.i64.wrap (m : Int) = m := by rw [IntKind.wrap_i64]; omega
 have hneg : ¬ ((m : Int) < 0) := by omega
 have hns : ¬ (m = 0) := by omega
 rw [hsz] at hold
 have hzl := zeros_toList m
 simp [Builtin.append_, run_underlying ht, run_underlying htn, sizeOf, typeInfo, zeroValue, hi, hz, hsz, hby, asInt, asIntOf, hw, hn, hneg, hns, h63', h48', h48i, Question.forced, hold, newRow, grownCap, hzl]
 congr 2
 apply Array.ext'
 simp [List.append_assoc]

theorem run_zeros_room (t tn ty e : TypeId) (i : TypeInfo) (kn : IntKind) (ht : P.underlying t = some (.slice e)) (htn : P.underlying tn = some (.int kn)) (hi : P.info? e = some i) (hz : i.zero = some (.int .u8 0)) (hsz : i.size = 1) (hby : i.bytes = 1)
  (g sLen sCap : Nat) (cur : Array Value) (hg : w.heap[g]? = some (.cells cur e (0, 0))) (m : Nat) (h0 : 0 < m) (h63 : sLen + m ≤ 140737488355328)
  (hroom : sLen + m ≤ sCap) (hfit : sLen + m ≤ cur.size) :
  (Builtin.append_ #[t, tn] ty #[.slice (some ⟨g, 0, none⟩) sLen sCap, .int .i64 m]).run P w =
   .ok (.slice (some ⟨g, 0, none⟩) (sLen + m) sCap) (w.setRow g (cur.toList.take sLen ++ Bs (List.replicate m 0) ++ cur.toList.drop (sLen + m)).toArray) := by
 have hst := run_storeCells_at P g sLen e (Bs (List.replicate m 0)) 0 cur w hg (by simpa [Bs] using hfit) (Bs_one _)
 simp only [Nat.add_zero] at hst
 have h48i : ¬ (281474976710656 < (m : Int)) := by omega
 have hw : IntKind.i64.wrap (m : Int) = m := by rw [IntKind.wrap_i64]; omega
 have hneg : ¬ ((m : Int) < 0) := by omega
 have hns : ¬ (m = 0) := by omega
 have hzl := zeros_toList m
 have hlen : (Bs (List.replicate m 0)).length = m := by simp [Bs]
 simp [Builtin.append_, run_underlying ht, run_underlying htn, sizeOf, typeInfo, zeroValue, hi, hz, hsz, hby, asInt, asIntOf, hw, hneg, hns, h48i, hroom, hzl, Addr.add_lit, hst, hlen]

end

theorem run_app0 (w : World) (base : Nat) (ty : TypeId) (a : Option Addr) (n cap : Nat) (xs : List UInt8) (hd : Bd base w a n cap xs) (m : Nat) (h0 : 0 < m) (h63 : n + m ≤ 140737488355328) (hbase : base ≤ w.heap.size) :
  ∃ a' cap' w', (Builtin.append_ #[22, 3] ty #[.slice a n cap, .int .i64 m]).run Try.prog w = .ok (.slice a' (n + m) cap') w' ∧ Bo base w' a' (n + m) cap' (xs ++ List.replicate m 0) ∧
   Keeps (mine base a) w w' ∧ Near base w a a' := by
 obtain ⟨i, hi, hz, hs1, hs2⟩ := info_parts info8
 have hvw := hd.by.2
 have hnx := hd.1
 have hlen : (Bs (xs ++ List.replicate m 0)).length = (n + m) * 1 := by simp [Bs, hnx]
 have grown : cap < n + m → ∃ a' cap' w', (Builtin.append_ #[22, 3] ty #[.slice a n cap, .int .i64 m]).run Try.prog w = .ok (.slice a' (n + m) cap') w' ∧ Bo base w' a' (n + m) cap' (xs ++ List.replicate m 0) ∧
   Keeps (mine base a) w w' ∧ Near base w a a' := by
  intro hg
  have hold : (Builtin.firstCells i.size n (.slice a n cap)).run Try.prog w.drew = .ok (Bs xs).toArray w.drew := by
   rw [hs1]
   rcases hvw.at_ with h0 | ⟨b, off, rfl, hb, hc⟩
   ·have e0 : n * 1 = 0 := by have := hvw.len; rw [h0] at this; simpa using this.symm
    rw [h0]
    cases a <;> simp [Builtin.firstCells, e0, loadCells, loadCellsFrom]
   ·exact run_firstCells_some w.drew 1 n _ n cap (Bs xs) hvw.len (fun j u hj => by rw [add_plain]; simpa using hc j u hj)
  have hr := run_zeros_grow (P := Try.prog) w 22 3 ty 5 i .i64 Try.underlying22 Try.underlying3 hi hz hs1 hs2 a n cap (Bs xs) hold m h0 hg h63
  have hge := grownCap_ge w (n + m) cap 5
  have hcm : grownCap w (n + m) cap 5 ≤ maxLen := grownCap_le_maxLen w (n + m) cap 5 (by unfold maxLen; omega)
  have hown : (w.drew.alloc (.cells ((Bs xs ++ Bs (List.replicate m 0)).toArray ++ Builtin.zeroCells (Value.int .u8 0).cells (grownCap w (n + m) cap 5 - (n + m))) 5)).ownsRow base 5 1
    (.slice (some ⟨w.heap.size, 0, none⟩) (n + m) (grownCap w (n + m) cap 5)) (n + m) (Bs (xs ++ List.replicate m 0)) := by
   refine ⟨hlen, .inr ⟨w.heap.size, _, _, rfl, hbase, heap_alloc_new w.drew _, hge, hcm, ?_, ?_⟩⟩
   ·rw [Bs_append]
    simp only [Array.size_append, List.size_toArray, size_zeroCells, hlen]
    simp [Value.cells]
    omega
   ·rw [Bs_append]
    simp only [Array.toList_append]
    rw [← hlen]
    exact List.take_left
  refine ⟨_, _, _, hr, ⟨by simp [hnx], hown⟩, ⟨rfl, rfl, rfl, by simp, fun k hk _ => Below.heap_alloc w.drew _ k hk⟩, fun k hk => .inr ?_⟩
  simp at hk
  omega
 by_cases hroom : n + m ≤ cap
 ·rcases hd.2 with hown | ⟨rfl, _⟩
  ·rcases hown.2 with ⟨hv, h0'⟩ | ⟨g, cap', cur, hv, hbg, hg, hnc, hcm, hcs, htake⟩
   ·cases hv; omega
   ·cases hv
    have hfit : n + m ≤ cur.size := by rw [hcs]; omega
    have hr := run_zeros_room (P := Try.prog) w 22 3 ty 5 i .i64 Try.underlying22 Try.underlying3 hi hz hs1 hs2 g n cap cur hg m h0 h63 hroom hfit
    have htk : cur.toList.take n = Bs xs := by simpa using htake
    have hown' : (w.setRow g (cur.toList.take n ++ Bs (List.replicate m 0) ++ cur.toList.drop (n + m)).toArray).ownsRow base 5 1 (.slice (some ⟨g, 0, none⟩) (n + m) cap) (n + m) (Bs (xs ++ List.replicate m 0)) := by
     refine ⟨hlen, .inr ⟨g, cap, _, rfl, hbg, setRow_heap w g cur _ 5 _ hg, hroom, hcm, ?_, ?_⟩⟩
     ·simp only [List.size_toArray, List.length_append, List.length_take, List.length_drop, Array.length_toList]
      have : (Bs (List.replicate m 0)).length = m := by simp [Bs]
      omega
     ·rw [htk, Bs_append, ← hlen]
      exact List.take_left
    exact ⟨_, _, _, hr, ⟨by simp [hnx], hown'⟩, ⟨rfl, rfl, rfl, by simp, fun k _ hk => setRow_other w g k _ (fun e => hk (by subst e; exact ⟨hbg, rfl⟩))⟩, fun k _ => .inl rfl⟩
  ·omega
 ·exact grown (by omega)

/-- append(b, make([]byte, n)...) at the operation. -/
theorem wpList_app0 (w : World) {ops : Array Oper} {rest : List Oper} {o : Oper} {ac : Act} {Q : Exit → Act → World → Prop} (hg : o.guard = none) (s x : Operand)
  (hop : o.op = Op.call { callee := Callee.builtin Builtin.append, args := #[s, x], argTypes := #[22, 3] }) (base : Nat)
  (a : Option Addr) (n cap : Nat) (xs : List UInt8) (hs : ac.eval s = .slice a n cap) (hd : Bd base w a n cap xs) (m : Nat) (h0 : 0 < m) (hx : ac.eval x = .int .i64 m)
  (b1 : n + m ≤ 140737488355328) (hb : base ≤ w.heap.size)
  (hK : ∀ a' cap' w', Bo base w' a' (n + m) cap' (xs ++ List.replicate m 0) → Keeps (mine base a) w w' → Near base w a a' → wpList Try.prog ops Q rest (ac.put o.dst (.slice a' (n + m) cap')) w') : wpList Try.prog ops Q (o :: rest) ac w := by
 refine wpList_plain hg fun K hK' => ?_
 obtain ⟨a', cap', w', hrun, r1, r2, r3⟩ := run_app0 w base o.type a n cap xs hd m h0 b1 hb
 unfold Oper.wp
 simp [execOp, hop, resolve, invoke, builtin, hs, hx, hrun, Result.andThen]
 exact hK' _ _ (hK a' cap' w' r1 r2 r3)

end Go.Proofs.Ytgfkgmmigbpciaa
