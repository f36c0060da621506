/- A region whose order is open and whose last operation z writes what an earlier one has read: a condition on the world that holds behind each operation but z. No program in sight. -/
import Derived.Test.YtcfljnlfikkhaaaHeldB
namespace Go.Proofs.Ytcfljnlfikkhaaa
open Go.RowKit Go.Deep

section
variable {P : Program} {ops : Array Oper} {Q : Exit → Act → World → Prop} {md : Region.Mode} {S : World → Prop} {z : Nat}

/-- Whatever order is drawn from here on; S holds behind each operation but z. -/
def wpAnyZ (P : Program) (md : Region.Mode) (ops : Array Oper) (Q : Exit → Act → World → Prop) (S : World → Prop) (z : Nat) : Nat → Array Bool → Act → World → Prop
  | 0, l, a, w => Region.ready md ops l = [] ∧ Q .normal a w
  | n + 1, l, a, w => (Region.ready md ops l = [] → Q .normal a w) ∧
      ∀ i ∈ Region.ready md ops l, wpOp P ops Q i (fun a' w' => (i ≠ z → S w') ∧ wpAnyZ P md ops Q S z n (l.setIfInBounds i true) a' w') a w

theorem wpAnyZ_any : ∀ (n : Nat) (l : Array Bool) (a : Act) (w : World), wpAnyZ P md ops Q S z n l a w → wpAny P md ops Q n l a w
  | 0, _, _, _, h => h
  | n + 1, _, _, _, h => ⟨h.1, fun i hi => wpOp_mono (fun a' w' k => wpAnyZ_any n _ a' w' k.2) (h.2 i hi)⟩

/-- Does z wait for i? -/
def waitsB (md : Region.Mode) (ops : Array Oper) (z i : Nat) : Bool := ((ops[z]?).map fun o => o.after.any fun e => Region.binds md e && e.on == i).getD false

theorem waitsB_not {i : Nat} {l : Array Bool} (hw : waitsB md ops z i = true) (hu : l.getD i true = false) : z ∉ Region.ready md ops l := by
  intro hz
  obtain ⟨_, oz, hoz, hall⟩ := mem_ready.1 hz
  unfold waitsB at hw
  rw [hoz] at hw
  simp only [Option.map_some, Option.getD_some, Array.any_eq_true', Bool.and_eq_true, beq_iff_eq] at hw
  obtain ⟨e, he, hb, rfl⟩ := hw
  have h1 := hall e he hb
  rcases Nat.lt_or_ge e.on l.size with h' | h'
  · simp [h'] at hu h1; rw [hu] at h1; cases h1
  · simp [Array.getElem?_eq_none h'] at h1

theorem z_first {i : Nat} {oi : Oper} {v : Value} (hi : ops[i]? = some oi) (hsel : ∀ (j : Nat) (o : Oper) cs b, ops[j]? = some o → o.op ≠ .select cs b)
    (hQ : ∀ c a w, Q (.panic c) (a.put oi.dst v) w → Q (.panic c) a w) (hw : waitsB md ops z i = true) :
    ∀ (n : Nat) (l : Array Bool) (a : Act) (w : World),
      (∀ j oj, ops[j]? = some oj → j ≠ i → l.getD j true = false → (∀ e ∈ oj.after, Region.binds md e = true → e.on ≠ i) → oi.apart ops oj = true) →
      i ∈ Region.ready md ops l → YieldsIf P ops S oi v a → S w →
      wpAnyZ P md ops Q S z n (l.setIfInBounds i true) (a.put oi.dst v) w → wpAnyZ P md ops Q S z (n + 1) l a w := by
  intro n
  induction n with
  | zero =>
    intro l a w _ hr hy hS H
    refine ⟨fun h => (by rw [h] at hr; cases hr), fun j hj => ?_⟩
    rcases Decidable.em (j = i) with rfl | hne
    · exact hy.wpOp hi hS ⟨fun _ => hS, H⟩
    · exact absurd (ready_mono hj hne) (by rw [H.1]; exact List.not_mem_nil)
  | succ n ih =>
    intro l a w hfree hr hy hS H
    refine ⟨fun h => (by rw [h] at hr; cases hr), fun j hj => ?_⟩
    rcases Decidable.em (j = i) with rfl | hne
    · exact hy.wpOp hi hS ⟨fun _ => hS, H⟩
    have hui := (mem_ready.1 hr).1
    have hjz : j ≠ z := fun e => waitsB_not hw hui (e ▸ hj)
    obtain ⟨huj, oj, hoj, hall⟩ := mem_ready.1 hj
    have hno : ∀ e ∈ oj.after, Region.binds md e = true → e.on ≠ i := fun e he hb h => by
      have h1 := h ▸ hall e he hb
      rcases Nat.lt_or_ge i l.size with h' | h'
      · simp [h'] at hui h1; rw [hui] at h1; cases h1
      · simp [Array.getElem?_eq_none h'] at h1
    have hstep := wpOp_putIf hoj (hfree j oj hoj hne huj hno) (fun cs b => hsel i oi cs b hi) (fun cs b => hsel j oj cs b hoj) hQ hy (H.2 j (ready_mono hj hne))
    refine wpOp_mono (fun a' w' h => ⟨fun _ => h.2.1 hjz, ih (l.setIfInBounds j true) a' w' ?_ (ready_mono hr (Ne.symm hne)) h.1 (h.2.1 hjz) ?_⟩) hstep
    · intro k ok hk hki hun hno'
      refine hfree k ok hk hki ?_ hno'
      rcases Decidable.em (j = k) with rfl | hjk
      · exact huj
      · rw [getD_set_ne true hjk] at hun; exact hun
    · rw [Array.setIfInBounds_comm _ _ hne]
      exact h.2.2

theorem z_begin {id : Nat} {a : Act} {w : World} (S : World → Prop) (z : Nat) (hm : P.follows .mixedOrders = true)
    (h : wpAnyZ P .any ops Q S z ops.size (Array.replicate ops.size false) a w.drew) : (Code.region id ops true).wp P Q a w :=
  wp_region_any hm (wpAnyZ_any _ _ _ _ h)

theorem z_take {i : Nat} {oi : Oper} {v : Value} {n : Nat} {l : Array Bool} {a : Act} {w : World} (hi : ops[i]? = some oi)
    (hs : Region.noSelect ops = true) (hf : Region.free md ops l i = true) (hr : (Region.ready md ops l).contains i = true) (hw : waitsB md ops z i = true)
    (hQ : ∀ c a w, Q (.panic c) (a.put oi.dst v) w → Q (.panic c) a w) (hy : YieldsIf P ops S oi v a) (hS : S w)
    (h : wpAnyZ P md ops Q S z n (l.setIfInBounds i true) (a.put oi.dst v) w) : wpAnyZ P md ops Q S z (n + 1) l a w :=
  z_first hi (Region.noSelect_spec hs) hQ hw n l a w (Region.free_spec hi hf) (by simpa using hr) hy hS h

theorem z_one {i : Nat} {o : Oper} {n : Nat} {l : Array Bool} {a : Act} {w : World} (ho : ops[i]? = some o) (hr : Region.ready md ops l = [i]) (hw : Region.wanted o (yielded ops a.tmps) = true)
    (h : ∀ K : Act → World → Prop, (∀ a' w', (i ≠ z → S w') → wpAnyZ P md ops Q S z n (l.setIfInBounds i true) a' w' → K a' w') → Oper.wp P o a w K Q) : wpAnyZ P md ops Q S z (n + 1) l a w := by
  refine ⟨fun h0 => (by rw [h0] at hr; cases hr), fun j hj => ?_⟩
  obtain rfl : j = i := by rw [hr] at hj; simpa using hj
  refine wpOp_step ho fun K hK => ?_
  rw [if_pos hw]
  exact h K (fun a' w' h1 h2 => hK a' w' ⟨h1, h2⟩)

theorem z_call {i : Nat} {o : Oper} {n : Nat} {l : Array Bool} {a : Act} {w : World} (f : FuncId) (args : Array Value) (ho : ops[i]? = some o) (hr : Region.ready md ops l = [i]) (hw : Region.wanted o (yielded ops a.tmps) = true)
    (hrun : (execOp a.eval o).run P w = .ok (.enter f args) w)
    (h : Calls P f args w fun e w' => ∃ v, e = .returned v ∧ S w' ∧ wpAnyZ P md ops Q S z n (l.setIfInBounds i true) (a.put o.dst v) w') : wpAnyZ P md ops Q S z (n + 1) l a w := by
  refine z_one ho hr hw fun K hK => ?_
  unfold Oper.wp
  rw [hrun, Oper.upon_enter]
  refine Calls.mono h ?_
  rintro e w' ⟨v, rfl, h1, h2⟩
  exact hK _ _ (fun _ => h1) h2

theorem z_do {i : Nat} {o : Oper} {n : Nat} {l : Array Bool} {a : Act} {w : World} (v : Value) (w' : World) (ho : ops[i]? = some o) (hr : Region.ready md ops l = [i]) (hw : Region.wanted o (yielded ops a.tmps) = true)
    (hrun : (execOp a.eval o).run P w = .ok (.value v) w') (hS : S w')
    (h : wpAnyZ P md ops Q S z n (l.setIfInBounds i true) (a.put o.dst v) w') : wpAnyZ P md ops Q S z (n + 1) l a w := by
  refine z_one ho hr hw fun K hK => ?_
  unfold Oper.wp
  rw [hrun, Oper.upon_value]
  exact hK _ _ (fun _ => hS) h

theorem z_app {i : Nat} {o : Oper} {n : Nat} {l : Array Bool} {ac : Act} {w : World} (ho : ops[i]? = some o) (hr : Region.ready md ops l = [i]) (hw : Region.wanted o (yielded ops ac.tmps) = true)
    (s x : Operand) (t tx : TypeId) (hop : o.op = Op.call { callee := Callee.builtin Builtin.append, args := #[s, x], argTypes := #[t, tx] }) (base : Nat) (e : TypeId) (inf : TypeInfo) (zv : Value) (size bytes : Nat)
    (h1 : P.underlying t = some (.slice e)) (h2 : P.info? e = some inf) (h3 : inf.zero = some zv) (h4 : inf.size = size) (h5 : inf.bytes = bytes) (h6 : zv.cells.size = size)
    (a : Option Addr) (len cap : Nat) (cs : List Value) (hs : ac.eval s = .slice a len cap) (hd : Dst base e size w a len cap cs) (u : Value) (hx : ac.eval x = u) (m : Nat) (news : List Value) (hsrc : Src P size tx u m news w)
    (b1 : len + m ≤ maxLen) (b2 : (len + m) * bytes ≤ 140737488355328) (hb : base ≤ w.heap.size)
    (hK : ∀ a' cap' w', Dst base e size w' a' (len + m) cap' (cs ++ news) → Keeps (mine base a) w w' → Near base w a a' →
      (0 < m → w'.ownsRow base e size (.slice a' (len + m) cap') (len + m) (cs ++ news)) → (m = 0 → cap' = cap ∧ a' = a ∧ w' = w) →
        S w' ∧ wpAnyZ P md ops Q S z n (l.setIfInBounds i true) (ac.put o.dst (.slice a' (len + m) cap')) w') : wpAnyZ P md ops Q S z (n + 1) l ac w := by
  refine z_one ho hr hw fun K hK' => ?_
  obtain ⟨a', cap', w', hrun, r1, r2, r3, r4, r5⟩ := run_app (P := P) w base t tx o.type e inf zv size bytes h1 h2 h3 h4 h5 h6 a len cap cs hd u m news hsrc b1 b2 hb
  have hh := hK a' cap' w' r1 r2 r3 r4 r5
  unfold Oper.wp
  simp [execOp, hop, resolve, invoke, builtin, hs, hx, hrun, Result.andThen]
  exact hK' _ _ (fun _ => hh.1) hh.2

/-- The last operation: a store. -/
theorem z_last {o : Oper} {n : Nat} {l : Array Bool} {a : Act} {w : World} (w' : World) (ho : ops[z]? = some o) (hr : Region.ready md ops l = [z]) (hw : Region.wanted o (yielded ops a.tmps) = true)
    (hrun : (execOp a.eval o).run P w = .ok .skip w') (hr' : Region.ready md ops (l.setIfInBounds z true) = [])
    (h : Q .normal (a.put o.dst undef) w') : wpAnyZ P md ops Q S z (n + 1) l a w := by
  refine z_one ho hr hw fun K hK => ?_
  unfold Oper.wp
  rw [hrun, Oper.upon_skip]
  refine hK _ _ (fun h => absurd rfl h) ?_
  cases n with
  | zero => exact ⟨hr', h⟩
  | succ n => exact ⟨fun _ => h, by rw [hr']; simp⟩

end
end Go.Proofs.Ytcfljnlfikkhaaa
