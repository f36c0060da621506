/- A region whose order is open and one of whose operations, z, writes what an earlier one has read: a condition S0 that holds behind each operation, and a condition S that holds as long as z has not come up. No program in sight. -/
import Derived.Test.YtcfljnlfikkhaaaHeldB
namespace Go.Proofs.Ytcfljnlfikkhaaa
open Go.RowKit Go.Deep

section
variable {P : Program} {ops : Array Oper} {Q : Exit → Act → World → Prop} {md : Region.Mode} {S0 S : World → Prop} {z : Nat}

/-- Whatever order is drawn from here on; S0 holds behind each operation, S while z is still to come. -/
def wpAnyY (P : Program) (md : Region.Mode) (ops : Array Oper) (Q : Exit → Act → World → Prop) (S0 S : World → Prop) (z : Nat) : Nat → Array Bool → Act → World → Prop
  | 0, l, a, w => Region.ready md ops l = [] ∧ Q .normal a w
  | n + 1, l, a, w => (Region.ready md ops l = [] → Q .normal a w) ∧
      ∀ i ∈ Region.ready md ops l, wpOp P ops Q i (fun a' w' => (S0 w' ∧ ((l.setIfInBounds i true).getD z true = false → S w')) ∧ wpAnyY P md ops Q S0 S z n (l.setIfInBounds i true) a' w') a w

theorem wpAnyY_any : ∀ (n : Nat) (l : Array Bool) (a : Act) (w : World), wpAnyY P md ops Q S0 S z n l a w → wpAny P md ops Q n l a w
  | 0, _, _, _, h => h
  | n + 1, _, _, _, h => ⟨h.1, fun i hi => wpOp_mono (fun a' w' k => wpAnyY_any n _ a' w' k.2) (h.2 i hi)⟩

/-- Does z wait for i? -/
def waitsY (md : Region.Mode) (ops : Array Oper) (z i : Nat) : Bool := ((ops[z]?).map fun o => o.after.any fun e => Region.binds md e && e.on == i).getD false

theorem waitsY_not {i : Nat} {l : Array Bool} (hw : waitsY md ops z i = true) (hu : l.getD i true = false) : z ∉ Region.ready md ops l := by
  intro hz
  obtain ⟨_, oz, hoz, hall⟩ := mem_ready.1 hz
  unfold waitsY at hw
  rw [hoz] at hw
  simp only [Option.map_some, Option.getD_some, Array.any_eq_true', Bool.and_eq_true, beq_iff_eq] at hw
  obtain ⟨e, he, hb, rfl⟩ := hw
  have h1 := hall e he hb
  rcases Nat.lt_or_ge e.on l.size with h' | h'
  · simp [h'] at hu h1; rw [hu] at h1; cases h1
  · simp [Array.getElem?_eq_none h'] at h1

/-- Each of a chain waits for the one ahead of it. -/
def chainY (md : Region.Mode) (ops : Array Oper) : Nat → List Nat → Bool
  | _, [] => true
  | i, p :: ps => waitsY md ops p i && chainY md ops p ps

theorem chainY_not {l : Array Bool} : ∀ (ps : List Nat) (i : Nat), chainY md ops i ps = true → l.getD i true = false → (∀ p ∈ ps, l.getD p true = false) → ∀ p ∈ ps, p ∉ Region.ready md ops l
  | [], _, _, _, _ => fun p hp => by cases hp
  | q :: qs, i, hc, hi, hl => fun p hp => by
    simp only [chainY, Bool.and_eq_true] at hc
    rcases List.mem_cons.1 hp with rfl | hp
    · exact waitsY_not hc.1 hi
    · exact chainY_not qs q hc.2 (hl q (List.mem_cons_self ..)) (fun r hr => hl r (List.mem_cons_of_mem _ hr)) p hp

theorem y_first0 {i : Nat} {oi : Oper} {v : Value} (hi : ops[i]? = some oi) (hsel : ∀ (j : Nat) (o : Oper) cs b, ops[j]? = some o → o.op ≠ .select cs b)
    (hQ : ∀ c a w, Q (.panic c) (a.put oi.dst v) w → Q (.panic c) a w) (hiz : i ≠ z) :
    ∀ (n : Nat) (l : Array Bool) (a : Act) (w : World),
      (∀ j oj, ops[j]? = some oj → j ≠ i → l.getD j true = false → (∀ e ∈ oj.after, Region.binds md e = true → e.on ≠ i) → oi.apart ops oj = true) →
      i ∈ Region.ready md ops l → YieldsIf P ops S0 oi v a → (S0 w ∧ (l.getD z true = false → S w)) →
      wpAnyY P md ops Q S0 S z n (l.setIfInBounds i true) (a.put oi.dst v) w → wpAnyY P md ops Q S0 S z (n + 1) l a w := by
  intro n
  induction n with
  | zero =>
    intro l a w _ hr hy hS H
    refine ⟨fun h => (by rw [h] at hr; cases hr), fun j hj => ?_⟩
    rcases Decidable.em (j = i) with rfl | hne
    · exact hy.wpOp hi hS.1 ⟨⟨hS.1, fun e => hS.2 (by rwa [getD_set_ne true hiz] at e)⟩, H⟩
    · exact absurd (ready_mono hj hne) (by rw [H.1]; exact List.not_mem_nil)
  | succ n ih =>
    intro l a w hfree hr hy hS H
    refine ⟨fun h => (by rw [h] at hr; cases hr), fun j hj => ?_⟩
    have hui := (mem_ready.1 hr).1
    rcases Decidable.em (j = i) with rfl | hne
    · exact hy.wpOp hi hS.1 ⟨⟨hS.1, fun e => hS.2 (by rwa [getD_set_ne true hiz] at e)⟩, H⟩
    obtain ⟨huj, oj, hoj, hall⟩ := mem_ready.1 hj
    have hno : ∀ e ∈ oj.after, Region.binds md e = true → e.on ≠ i := fun e he hb h => by
      have h1 := h ▸ hall e he hb
      rcases Nat.lt_or_ge i l.size with h' | h'
      · simp [h'] at hui h1; rw [hui] at h1; cases h1
      · simp [Array.getElem?_eq_none h'] at h1
    have hst := wpOp_putIf hoj (hfree j oj hoj hne huj hno) (fun cs b => hsel i oi cs b hi) (fun cs b => hsel j oj cs b hoj) hQ hy (H.2 j (ready_mono hj hne))
    refine wpOp_mono (fun a' w' h => ?_) hst
    have hS' : S0 w' ∧ ((l.setIfInBounds j true).getD z true = false → S w') := ⟨h.2.1.1, fun e => h.2.1.2 (by rw [Array.setIfInBounds_comm _ _ (Ne.symm hne), getD_set_ne true hiz]; exact e)⟩
    refine ⟨hS', ih (l.setIfInBounds j true) a' w' ?_ (ready_mono hr (Ne.symm hne)) h.1 hS' ?_⟩
    · intro k ok hk hki hun hno'
      refine hfree k ok hk hki ?_ hno'
      rcases Decidable.em (j = k) with rfl | hjk
      · exact huj
      · rw [getD_set_ne true hjk] at hun; exact hun
    · rw [Array.setIfInBounds_comm _ _ hne]
      exact h.2.2

theorem y_firstS {i : Nat} {oi : Oper} {v : Value} (hi : ops[i]? = some oi) (hsel : ∀ (j : Nat) (o : Oper) cs b, ops[j]? = some o → o.op ≠ .select cs b)
    (hQ : ∀ c a w, Q (.panic c) (a.put oi.dst v) w → Q (.panic c) a w) (hiz : i ≠ z) (ps : List Nat) (hzp : z ∈ ps) (hw : chainY md ops i ps = true) :
    ∀ (n : Nat) (l : Array Bool) (a : Act) (w : World),
      (∀ j oj, ops[j]? = some oj → j ≠ i → l.getD j true = false → (∀ e ∈ oj.after, Region.binds md e = true → e.on ≠ i) → oi.apart ops oj = true) →
      i ∈ Region.ready md ops l → YieldsIf P ops S oi v a → (S0 w ∧ (l.getD z true = false → S w)) → (∀ p ∈ ps, l.getD p true = false) →
      wpAnyY P md ops Q S0 S z n (l.setIfInBounds i true) (a.put oi.dst v) w → wpAnyY P md ops Q S0 S z (n + 1) l a w := by
  intro n
  induction n with
  | zero =>
    intro l a w _ hr hy hS hlz H
    refine ⟨fun h => (by rw [h] at hr; cases hr), fun j hj => ?_⟩
    rcases Decidable.em (j = i) with rfl | hne
    · exact hy.wpOp hi (hS.2 (hlz z hzp)) ⟨⟨hS.1, fun e => hS.2 (by rwa [getD_set_ne true hiz] at e)⟩, H⟩
    · exact absurd (ready_mono hj hne) (by rw [H.1]; exact List.not_mem_nil)
  | succ n ih =>
    intro l a w hfree hr hy hS hlz H
    refine ⟨fun h => (by rw [h] at hr; cases hr), fun j hj => ?_⟩
    have hui := (mem_ready.1 hr).1
    rcases Decidable.em (j = i) with rfl | hne
    · exact hy.wpOp hi (hS.2 (hlz z hzp)) ⟨⟨hS.1, fun e => hS.2 (by rwa [getD_set_ne true hiz] at e)⟩, H⟩
    obtain ⟨huj, oj, hoj, hall⟩ := mem_ready.1 hj
    have hno : ∀ e ∈ oj.after, Region.binds md e = true → e.on ≠ i := fun e he hb h => by
      have h1 := h ▸ hall e he hb
      rcases Nat.lt_or_ge i l.size with h' | h'
      · simp [h'] at hui h1; rw [hui] at h1; cases h1
      · simp [Array.getElem?_eq_none h'] at h1
    have hst := wpOp_putIf hoj (hfree j oj hoj hne huj hno) (fun cs b => hsel i oi cs b hi) (fun cs b => hsel j oj cs b hoj) hQ hy (H.2 j (ready_mono hj hne))
    refine wpOp_mono (fun a' w' h => ?_) hst
    have hS' : S0 w' ∧ ((l.setIfInBounds j true).getD z true = false → S w') := ⟨h.2.1.1, fun e => h.2.1.2 (by rw [Array.setIfInBounds_comm _ _ (Ne.symm hne), getD_set_ne true hiz]; exact e)⟩
    refine ⟨hS', ih (l.setIfInBounds j true) a' w' ?_ (ready_mono hr (Ne.symm hne)) h.1 hS' (fun p hp => by rw [getD_set_ne true (show j ≠ p from fun e => chainY_not ps i hw hui hlz p hp (by subst e; exact hj))]; exact hlz p hp) ?_⟩
    · intro k ok hk hki hun hno'
      refine hfree k ok hk hki ?_ hno'
      rcases Decidable.em (j = k) with rfl | hjk
      · exact huj
      · rw [getD_set_ne true hjk] at hun; exact hun
    · rw [Array.setIfInBounds_comm _ _ hne]
      exact h.2.2

theorem y_begin {id : Nat} {a : Act} {w : World} (S0 S : World → Prop) (z : Nat) (hm : P.follows .mixedOrders = true)
    (h : wpAnyY P .any ops Q S0 S z ops.size (Array.replicate ops.size false) a w.drew) : (Code.region id ops true).wp P Q a w :=
  wp_region_any hm (wpAnyY_any _ _ _ _ h)

/-- An operation that yields under S0 is taken first. -/
theorem y_take0 {i : Nat} {oi : Oper} {v : Value} {n : Nat} {l : Array Bool} {a : Act} {w : World} (hi : ops[i]? = some oi)
    (hs : Region.noSelect ops = true) (hf : Region.free md ops l i = true) (hr : (Region.ready md ops l).contains i = true) (hiz : i ≠ z)
    (hQ : ∀ c a w, Q (.panic c) (a.put oi.dst v) w → Q (.panic c) a w) (hy : YieldsIf P ops S0 oi v a) (hS : S0 w ∧ (l.getD z true = false → S w))
    (h : wpAnyY P md ops Q S0 S z n (l.setIfInBounds i true) (a.put oi.dst v) w) : wpAnyY P md ops Q S0 S z (n + 1) l a w :=
  y_first0 hi (Region.noSelect_spec hs) hQ hiz n l a w (Region.free_spec hi hf) (by simpa using hr) hy hS h

/-- An operation for which z waits, and that yields under S, is taken first. -/
theorem y_takeS {i : Nat} {oi : Oper} {v : Value} {n : Nat} {l : Array Bool} {a : Act} {w : World} (hi : ops[i]? = some oi)
    (hs : Region.noSelect ops = true) (hf : Region.free md ops l i = true) (hr : (Region.ready md ops l).contains i = true) (hiz : i ≠ z) (ps : List Nat) (hzp : ps.contains z = true) (hw : chainY md ops i ps = true) (hl : (ps.all fun p => l.getD p true == false) = true)
    (hQ : ∀ c a w, Q (.panic c) (a.put oi.dst v) w → Q (.panic c) a w) (hy : YieldsIf P ops S oi v a) (hS : S0 w ∧ (l.getD z true = false → S w))
    (h : wpAnyY P md ops Q S0 S z n (l.setIfInBounds i true) (a.put oi.dst v) w) : wpAnyY P md ops Q S0 S z (n + 1) l a w :=
  y_firstS hi (Region.noSelect_spec hs) hQ hiz ps (by simpa using hzp) hw n l a w (Region.free_spec hi hf) (by simpa using hr) hy hS (fun p hp => by simpa using List.all_eq_true.1 hl p hp) h

/-- .. behind z. -/
theorem y_take1 {i : Nat} {oi : Oper} {v : Value} {n : Nat} {l : Array Bool} {a : Act} {w : World} (hi : ops[i]? = some oi)
    (hs : Region.noSelect ops = true) (hf : Region.free md ops l i = true) (hr : (Region.ready md ops l).contains i = true) (hiz : i ≠ z) (hz : l.getD z true = true)
    (hQ : ∀ c a w, Q (.panic c) (a.put oi.dst v) w → Q (.panic c) a w) (hy : YieldsIf P ops S0 oi v a) (hS : S0 w)
    (h : wpAnyY P md ops Q S0 S z n (l.setIfInBounds i true) (a.put oi.dst v) w) : wpAnyY P md ops Q S0 S z (n + 1) l a w :=
  y_take0 hi hs hf hr hiz hQ hy ⟨hS, fun e => by rw [hz] at e; cases e⟩ h

theorem y_one {i : Nat} {o : Oper} {n : Nat} {l : Array Bool} {a : Act} {w : World} (ho : ops[i]? = some o) (hr : Region.ready md ops l = [i]) (hw : Region.wanted o (yielded ops a.tmps) = true)
    (h : ∀ K : Act → World → Prop, (∀ a' w', (S0 w' ∧ ((l.setIfInBounds i true).getD z true = false → S w')) → wpAnyY P md ops Q S0 S z n (l.setIfInBounds i true) a' w' → K a' w') → Oper.wp P o a w K Q) : wpAnyY P md ops Q S0 S z (n + 1) l a w := by
  refine ⟨fun h0 => (by rw [h0] at hr; cases hr), fun j hj => ?_⟩
  obtain rfl : j = i := by rw [hr] at hj; simpa using hj
  refine wpOp_step ho fun K hK => ?_
  rw [if_pos hw]
  exact h K (fun a' w' h1 h2 => hK a' w' ⟨h1, h2⟩)

/-- The call z. -/
theorem y_call {o : Oper} {n : Nat} {l : Array Bool} {a : Act} {w : World} (f : FuncId) (args : Array Value) (ho : ops[z]? = some o) (hr : Region.ready md ops l = [z]) (hw : Region.wanted o (yielded ops a.tmps) = true)
    (hz : (l.setIfInBounds z true).getD z true = true)
    (hrun : (execOp a.eval o).run P w = .ok (.enter f args) w)
    (h : Calls P f args w fun e w' => ∃ v, e = .returned v ∧ S0 w' ∧ wpAnyY P md ops Q S0 S z n (l.setIfInBounds z true) (a.put o.dst v) w') : wpAnyY P md ops Q S0 S z (n + 1) l a w := by
  refine y_one ho hr hw fun K hK => ?_
  unfold Oper.wp
  rw [hrun, Oper.upon_enter]
  refine Calls.mono h ?_
  rintro e w' ⟨v, rfl, h1, h2⟩
  exact hK _ _ ⟨h1, fun e => by rw [hz] at e; cases e⟩ h2

/-- A store behind z. -/
theorem y_skip {i : Nat} {o : Oper} {n : Nat} {l : Array Bool} {a : Act} {w : World} (w' : World) (ho : ops[i]? = some o) (hr : Region.ready md ops l = [i]) (hw : Region.wanted o (yielded ops a.tmps) = true)
    (hz : (l.setIfInBounds i true).getD z true = true)
    (hrun : (execOp a.eval o).run P w = .ok .skip w') (hS : S0 w')
    (h : wpAnyY P md ops Q S0 S z n (l.setIfInBounds i true) (a.put o.dst undef) w') : wpAnyY P md ops Q S0 S z (n + 1) l a w := by
  refine y_one ho hr hw fun K hK => ?_
  unfold Oper.wp
  rw [hrun, Oper.upon_skip]
  exact hK _ _ ⟨hS, fun e => by rw [hz] at e; cases e⟩ h

theorem y_done {l : Array Bool} {a : Act} {w : World} (hr : Region.ready md ops l = []) (h : Q .normal a w) : ∀ n, wpAnyY P md ops Q S0 S z n l a w
  | 0 => ⟨hr, h⟩
  | _ + 1 => ⟨fun _ => h, by rw [hr]; simp⟩

/-- The frame behind a region that was walked by hand, under a name of its own. -/
theorem then_named {K : Act → World → Prop} {Q' : Exit → Act → World → Prop} {a : Act} {w : World} (h : ∀ b : Act, b = a → Exit.then K Q' .normal b w) : Exit.then K Q' .normal a w := h a rfl

end
end Go.Proofs.Ytcfljnlfikkhaaa
