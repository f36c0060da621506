/- Five entries are laid into a table, in whatever order. -/
import Derived.Test.YtaelhcoeejpglaaSeqA
import Derived.RegionTactic
namespace Go.Proofs.Ytaelhcoeejpglaa
open Go.RowKit Go.Deep Go.Maps

theorem wpOp_insert {ops : Array Oper} {Q : Exit → Act → World → Prop} {K : Act → World → Prop} {i : Nat} {o : Oper} {a : Act} {w0 w : World} (ho : ops[i]? = some o) (hg : o.guard = none) (hd : o.dst = none)
    (m x u : Operand) (hop : o.op = Op.insert 34 m x u) (b n : Nat) (f : Int → Int → Option Int) (hm : a.eval m = .map (some b)) (s t v : Int) (hx : a.eval x = MvV s t) (hu : a.eval u = .int .i64 v)
    (h : Mq w0 w b n f) (hn : n < 1000000) (hs : (Lit.int .i64 s).wf = true) (ht : (Lit.int .u64 t).wf = true) (hv : (Lit.int .i64 v).wf = true)
    (hK : ∀ w', Mq w0 w' b (n + 1) (fun s' t' => if s' = s ∧ t' = t then some v else f s' t') → K a w') : wpOp Try.prog ops Q i K a w := by
  obtain ⟨w', hrun, h'⟩ := run_insert h hn hs ht hv
  refine wpOp_step ho fun K' hK' => ?_
  rw [if_pos (by simp [Region.wanted, hg])]
  unfold Oper.wp
  simp [execOp, hop, hm, hx, hu, hrun, Result.andThen, Oper.upon, hd, Act.put]
  exact hK' _ _ (hK w' h')

def mk5 (b0 b1 b2 b3 b4 : Bool) : Array Bool := #[true, true, b0, true, b1, true, b2, true, b3, true, b4, false, false]
def rdy5 (b0 b1 b2 b3 b4 : Bool) : List Nat := (if b0 then [] else [2]) ++ (if b1 then [] else [4]) ++ (if b2 then [] else [6]) ++ (if b3 then [] else [8]) ++ (if b4 then [] else [10]) ++ if b0 && b1 && b2 && b3 && b4 then [11] else []
/-- What the table holds where these have come up. -/
def tab5 (b0 b1 b2 b3 b4 : Bool) (s t : Int) : Option Int :=
  if b0 = true ∧ s = 0 ∧ t = 1 then some 1 else if b1 = true ∧ s = 1 ∧ t = 1 then some 3 else if b2 = true ∧ s = 2 ∧ t = 1 then some 3 else if b3 = true ∧ s = 1 ∧ t = 0 then some 2 else if b4 = true ∧ s = 2 ∧ t = 0 then some 2 else none

theorem tab5_all (s t : Int) : tab5 true true true true true s t = reqMap s t := by simp [tab5, reqMap]

theorem wpAny_five {md : Region.Mode} {ops : Array Oper} {Q : Exit → Act → World → Prop} {a : Act} (w0 : World) (b : Nat) (m x0 x1 x2 x3 x4 u0 u1 u2 u3 u4 : Operand) {o0 o1 o2 o3 o4 : Oper}
    (hr : ∀ b0 b1 b2 b3 b4, Region.ready md ops (mk5 b0 b1 b2 b3 b4) = rdy5 b0 b1 b2 b3 b4)
    (h0 : ops[2]? = some o0) (h1 : ops[4]? = some o1) (h2 : ops[6]? = some o2) (h3 : ops[8]? = some o3) (h4 : ops[10]? = some o4)
    (g0 : o0.guard = none) (g1 : o1.guard = none) (g2 : o2.guard = none) (g3 : o3.guard = none) (g4 : o4.guard = none)
    (d0 : o0.dst = none) (d1 : o1.dst = none) (d2 : o2.dst = none) (d3 : o3.dst = none) (d4 : o4.dst = none)
    (p0 : o0.op = Op.insert 34 m x0 u0) (p1 : o1.op = Op.insert 34 m x1 u1) (p2 : o2.op = Op.insert 34 m x2 u2) (p3 : o3.op = Op.insert 34 m x3 u3) (p4 : o4.op = Op.insert 34 m x4 u4)
    (hm : a.eval m = .map (some b))
    (e0 : a.eval x0 = MvV 0 1) (e1 : a.eval x1 = MvV 1 1) (e2 : a.eval x2 = MvV 2 1) (e3 : a.eval x3 = MvV 1 0) (e4 : a.eval x4 = MvV 2 0)
    (v0 : a.eval u0 = .int .i64 1) (v1 : a.eval u1 = .int .i64 3) (v2 : a.eval u2 = .int .i64 3) (v3 : a.eval u3 = .int .i64 2) (v4 : a.eval u4 = .int .i64 2)
    (hend : ∀ w n, Mq w0 w b n reqMap → wpAny Try.prog md ops Q 2 #[true, true, true, true, true, true, true, true, true, true, true, false, false] a w)
    (w : World) (n : Nat) (hn : n ≤ 1) (h : Mq w0 w b n (fun _ _ => none)) :
    wpAny Try.prog md ops Q 7 #[true, true, false, true, false, true, false, true, false, true, false, false, false] a w := by
  refine wpAny_phase (fun l => ∃ b0 b1 b2 b3 b4, l = mk5 b0 b1 b2 b3 b4) (mk5 true true true true true)
    (fun l w' => ∃ b0 b1 b2 b3 b4 n, l = mk5 b0 b1 b2 b3 b4 ∧ n + l.count false ≤ 100 ∧ Mq w0 w' b n (tab5 b0 b1 b2 b3 b4)) ?_ ?_ ?_ 7 _ w (by decide) ⟨false, false, false, false, false, rfl⟩ ⟨false, false, false, false, false, n, rfl, ?_, ?_⟩
  · rintro l ⟨b0, b1, b2, b3, b4, rfl⟩ hl
    rw [hr]
    revert hl
    cases b0 <;> cases b1 <;> cases b2 <;> cases b3 <;> cases b4 <;> simp [rdy5]
  · rintro l w' i - hl ⟨b0, b1, b2, b3, b4, n, rfl, hn, hq⟩ hi
    rw [hr] at hi
    have hc := fun (l' : Array Bool) (h' : l' = (mk5 b0 b1 b2 b3 b4).setIfInBounds i true) (hf : (mk5 b0 b1 b2 b3 b4).getD i true = false) => (show l'.count false + 1 = (mk5 b0 b1 b2 b3 b4).count false from h' ▸ count_set hf)
    have hcount : n < 1000 := by omega
    have cases5 : (i = 2 ∧ b0 = false) ∨ (i = 4 ∧ b1 = false) ∨ (i = 6 ∧ b2 = false) ∨ (i = 8 ∧ b3 = false) ∨ (i = 10 ∧ b4 = false) := by
      revert hi hl
      clear hq hc hn
      cases b0 <;> cases b1 <;> cases b2 <;> cases b3 <;> cases b4 <;> simp [rdy5]
    rcases cases5 with ⟨rfl, rfl⟩ | ⟨rfl, rfl⟩ | ⟨rfl, rfl⟩ | ⟨rfl, rfl⟩ | ⟨rfl, rfl⟩
    · refine wpOp_insert h0 g0 d0 m x0 u0 p0 b n _ hm 0 1 1 e0 v0 hq (by omega) (by decide) (by decide) (by decide) fun w2 hq2 => ?_
      have := hc (mk5 true b1 b2 b3 b4) rfl rfl
      refine ⟨rfl, ⟨true, b1, b2, b3, b4, rfl⟩, true, b1, b2, b3, b4, n + 1, rfl, by show n + 1 + (mk5 true b1 b2 b3 b4).count false ≤ 100; omega, ?_⟩
      have e : (fun s' t' => if s' = 0 ∧ t' = 1 then some 1 else tab5 false b1 b2 b3 b4 s' t') = tab5 true b1 b2 b3 b4 := by funext s' t'; simp [tab5]
      exact e ▸ hq2
    · refine wpOp_insert h1 g1 d1 m x1 u1 p1 b n _ hm 1 1 3 e1 v1 hq (by omega) (by decide) (by decide) (by decide) fun w2 hq2 => ?_
      have := hc (mk5 b0 true b2 b3 b4) rfl rfl
      refine ⟨rfl, ⟨b0, true, b2, b3, b4, rfl⟩, b0, true, b2, b3, b4, n + 1, rfl, by show n + 1 + (mk5 b0 true b2 b3 b4).count false ≤ 100; omega, ?_⟩
      have e : (fun s' t' => if s' = 1 ∧ t' = 1 then some 3 else tab5 b0 false b2 b3 b4 s' t') = tab5 b0 true b2 b3 b4 := by
        funext s' t'
        by_cases hs : s' = 1 ∧ t' = 1
        · obtain ⟨rfl, rfl⟩ := hs; simp [tab5]
        · rw [if_neg hs]; simp [tab5, hs]
      exact e ▸ hq2
    · refine wpOp_insert h2 g2 d2 m x2 u2 p2 b n _ hm 2 1 3 e2 v2 hq (by omega) (by decide) (by decide) (by decide) fun w2 hq2 => ?_
      have := hc (mk5 b0 b1 true b3 b4) rfl rfl
      refine ⟨rfl, ⟨b0, b1, true, b3, b4, rfl⟩, b0, b1, true, b3, b4, n + 1, rfl, by show n + 1 + (mk5 b0 b1 true b3 b4).count false ≤ 100; omega, ?_⟩
      have e : (fun s' t' => if s' = 2 ∧ t' = 1 then some 3 else tab5 b0 b1 false b3 b4 s' t') = tab5 b0 b1 true b3 b4 := by
        funext s' t'
        by_cases hs : s' = 2 ∧ t' = 1
        · obtain ⟨rfl, rfl⟩ := hs; simp [tab5]
        · rw [if_neg hs]; simp [tab5, hs]
      exact e ▸ hq2
    · refine wpOp_insert h3 g3 d3 m x3 u3 p3 b n _ hm 1 0 2 e3 v3 hq (by omega) (by decide) (by decide) (by decide) fun w2 hq2 => ?_
      have := hc (mk5 b0 b1 b2 true b4) rfl rfl
      refine ⟨rfl, ⟨b0, b1, b2, true, b4, rfl⟩, b0, b1, b2, true, b4, n + 1, rfl, by show n + 1 + (mk5 b0 b1 b2 true b4).count false ≤ 100; omega, ?_⟩
      have e : (fun s' t' => if s' = 1 ∧ t' = 0 then some 2 else tab5 b0 b1 b2 false b4 s' t') = tab5 b0 b1 b2 true b4 := by
        funext s' t'
        by_cases hs : s' = 1 ∧ t' = 0
        · obtain ⟨rfl, rfl⟩ := hs; simp [tab5]
        · rw [if_neg hs]; simp [tab5, hs]
      exact e ▸ hq2
    · refine wpOp_insert h4 g4 d4 m x4 u4 p4 b n _ hm 2 0 2 e4 v4 hq (by omega) (by decide) (by decide) (by decide) fun w2 hq2 => ?_
      have := hc (mk5 b0 b1 b2 b3 true) rfl rfl
      refine ⟨rfl, ⟨b0, b1, b2, b3, true, rfl⟩, b0, b1, b2, b3, true, n + 1, rfl, by show n + 1 + (mk5 b0 b1 b2 b3 true).count false ≤ 100; omega, ?_⟩
      have e : (fun s' t' => if s' = 2 ∧ t' = 0 then some 2 else tab5 b0 b1 b2 b3 false s' t') = tab5 b0 b1 b2 b3 true := by
        funext s' t'
        by_cases hs : s' = 2 ∧ t' = 0
        · obtain ⟨rfl, rfl⟩ := hs; simp [tab5]
        · rw [if_neg hs]; simp [tab5, hs]
      exact e ▸ hq2
  · rintro w' ⟨b0, b1, b2, b3, b4, n, hl, _, hq⟩
    have hb : b0 = true ∧ b1 = true ∧ b2 = true ∧ b3 = true ∧ b4 = true := by
      revert hl
      clear hq
      cases b0 <;> cases b1 <;> cases b2 <;> cases b3 <;> cases b4 <;> decide
    obtain ⟨rfl, rfl, rfl, rfl, rfl⟩ := hb
    have e : tab5 true true true true true = reqMap := by funext s t; exact tab5_all s t
    exact hend w' n (e ▸ hq)
  · have : (mk5 false false false false false).count false = 7 := by decide
    show n + (mk5 false false false false false).count false ≤ 100
    omega
  · have e : tab5 false false false false false = fun _ _ => none := by funext s t; simp [tab5]
    exact e ▸ h

end Go.Proofs.Ytaelhcoeejpglaa
