/- Three rows of one's own in one world; the steps of a region of open order where several operations may come up. -/
import Derived.Test.YtaokhgpidifedaaPktM
namespace Go.Proofs.Ytaokhgpidifedaa
open Go.RowKit Go.Deep

theorem infoH : (Try.prog.info? 29).map (fun i => (i.zero, i.size, i.bytes)) = some (some (.agg #[.bool false, .int .i64 0, .int .u32 0, .slice none 0 0, .slice none 0 0, .int .u64 0, .int .i64 0]), 7, 88) := by kernel_rfl
theorem infoS : (Try.prog.info? 24).map (fun i => (i.zero, i.size, i.bytes)) = some (some (.slice none 0 0), 1, 24) := by kernel_rfl

theorem own_ge {base : Nat} {w : World} {e : TypeId} {size : Nat} {a : Option Addr} {n cap : Nat} {cs : List Value} (h : w.ownsRow base e size (.slice a n cap) n cs) : ∀ b, a.map (·.block) = some b → base ≤ b ∧ b < w.heap.size := by
  intro b hb
  rcases h.2 with ⟨hv, _⟩ | ⟨g, cap', cur, hv, hg, hbk, _⟩
  · cases hv; cases hb
  · cases hv
    simp at hb
    subst hb
    exact ⟨hg, lt_of_block hbk⟩

/-- Three rows of one's own: bytes, headers, slices; they lie apart, and none lies in a block of L. -/
structure Tri (base : Nat) (w : World) (L : List Nat) (a1 : Option Addr) (n1 c1 : Nat) (xs : List UInt8) (a2 : Option Addr) (n2 c2 : Nat) (ds : List Value) (a3 : Option Addr) (n3 c3 : Nat) (es : List Value) : Prop where
  o1 : Bo base w a1 n1 c1 xs
  o2 : w.ownsRow base 29 7 (.slice a2 n2 c2) n2 ds
  o3 : w.ownsRow base 24 1 (.slice a3 n3 c3) n3 es
  d12 : ∀ b, a1.map (·.block) = some b → a2.map (·.block) ≠ some b
  d13 : ∀ b, a1.map (·.block) = some b → a3.map (·.block) ≠ some b
  d23 : ∀ b, a2.map (·.block) = some b → a3.map (·.block) ≠ some b
  pl : ∀ b ∈ L, b < w.heap.size ∧ a1.map (·.block) ≠ some b ∧ a2.map (·.block) ≠ some b ∧ a3.map (·.block) ≠ some b

section
variable {base : Nat} {w w' : World} {L : List Nat} {a1 : Option Addr} {n1 c1 : Nat} {xs : List UInt8} {a2 : Option Addr} {n2 c2 : Nat} {ds : List Value} {a3 : Option Addr} {n3 c3 : Nat} {es : List Value}

theorem Tri.nil (base : Nat) (w : World) : Tri base w [] none 0 0 [] none 0 0 [] none 0 0 [] :=
  ⟨Bo.nil _ _, World.ownsRow_nil _ _ _ _, World.ownsRow_nil _ _ _ _, fun _ h => by (cases h), fun _ h => by (cases h), fun _ h => by (cases h), fun _ h => by cases h⟩

/-- What is kept when no block of one's own turns. -/
theorem Tri.keep {S : Nat → Prop} (h : Tri base w L a1 n1 c1 xs a2 n2 c2 ds a3 n3 c3 es) (k : Keeps S w w') (h1 : ∀ b, a1.map (·.block) = some b → ¬ S b) (h2 : ∀ b, a2.map (·.block) = some b → ¬ S b) (h3 : ∀ b, a3.map (·.block) = some b → ¬ S b) : Tri base w' L a1 n1 c1 xs a2 n2 c2 ds a3 n3 c3 es :=
  ⟨h.o1.keep k h1, own_keep h.o2 k h2, own_keep h.o3 k h3, h.d12, h.d13, h.d23, fun b hb => ⟨Nat.lt_of_lt_of_le (h.pl b hb).1 k.size, (h.pl b hb).2⟩⟩
theorem Tri.below (h : Tri base w L a1 n1 c1 xs a2 n2 c2 ds a3 n3 c3 es) (k : Below w.heap.size w w') : Tri base w' L a1 n1 c1 xs a2 n2 c2 ds a3 n3 c3 es :=
  h.keep (Below.keeps k) (fun b hb e => by have := (h.o1.ge b hb).2; omega) (fun b hb e => by have := (own_ge h.o2 b hb).2; omega) (fun b hb e => by have := (own_ge h.o3 b hb).2; omega)
theorem Tri.low {S : Nat → Prop} (h : Tri base w L a1 n1 c1 xs a2 n2 c2 ds a3 n3 c3 es) (k : Keeps S w w') (hs : ∀ b, S b → b < base) : Tri base w' L a1 n1 c1 xs a2 n2 c2 ds a3 n3 c3 es :=
  h.keep k (fun b hb e => by have := (h.o1.ge b hb).1; have := hs b e; omega) (fun b hb e => by have := (own_ge h.o2 b hb).1; have := hs b e; omega) (fun b hb e => by have := (own_ge h.o3 b hb).1; have := hs b e; omega)
theorem Tri.forget (h : Tri base w L a1 n1 c1 xs a2 n2 c2 ds a3 n3 c3 es) : Tri base w [] a1 n1 c1 xs a2 n2 c2 ds a3 n3 c3 es := ⟨h.o1, h.o2, h.o3, h.d12, h.d13, h.d23, fun b hb => by cases hb⟩
/-- A block that none of the rows lies in. -/
theorem Tri.add (h : Tri base w L a1 n1 c1 xs a2 n2 c2 ds a3 n3 c3 es) (b : Nat) (hb : b < w.heap.size) (h1 : a1.map (·.block) ≠ some b) (h2 : a2.map (·.block) ≠ some b) (h3 : a3.map (·.block) ≠ some b) : Tri base w (b :: L) a1 n1 c1 xs a2 n2 c2 ds a3 n3 c3 es :=
  ⟨h.o1, h.o2, h.o3, h.d12, h.d13, h.d23, fun c hc => by
    rcases List.mem_cons.1 hc with rfl | hc
    · exact ⟨hb, h1, h2, h3⟩
    · exact h.pl c hc⟩
/-- A block that is made. -/
theorem Tri.made (h : Tri base w L a1 n1 c1 xs a2 n2 c2 ds a3 n3 c3 es) (o : Obj) : Tri base (w.alloc o) (w.heap.size :: L) a1 n1 c1 xs a2 n2 c2 ds a3 n3 c3 es :=
  (h.keep ((Keeps.refl (fun _ => False) w).alloc o) (fun _ _ e => e) (fun _ _ e => e) (fun _ _ e => e)).add w.heap.size (by simp) (fun e => by have := (h.o1.ge _ e).2; omega) (fun e => by have := (own_ge h.o2 _ e).2; omega) (fun e => by have := (own_ge h.o3 _ e).2; omega)
theorem Tri.fresh {b : Nat} (h : Tri base w L a1 n1 c1 xs a2 n2 c2 ds a3 n3 c3 es) (hb : w.heap.size ≤ b) : a1.map (·.block) ≠ some b ∧ a2.map (·.block) ≠ some b ∧ a3.map (·.block) ≠ some b :=
  ⟨fun e => by have := (h.o1.ge _ e).2; omega, fun e => by have := (own_ge h.o2 _ e).2; omega, fun e => by have := (own_ge h.o3 _ e).2; omega⟩

theorem Tri.app1 {a1' : Option Addr} {n1' c1' : Nat} {xs' : List UInt8} (h : Tri base w L a1 n1 c1 xs a2 n2 c2 ds a3 n3 c3 es) (ho : Bo base w' a1' n1' c1' xs') (hk : Keeps (mine base a1) w w') (hn : Near base w a1 a1') : Tri base w' L a1' n1' c1' xs' a2 n2 c2 ds a3 n3 c3 es := by
  refine ⟨ho, own_keep h.o2 hk (fun b hb e => h.d12 b e.2 hb), own_keep h.o3 hk (fun b hb e => h.d13 b e.2 hb), fun b hb e => ?_, fun b hb e => ?_, h.d23, fun b hb => ⟨Nat.lt_of_lt_of_le (h.pl b hb).1 hk.size, fun e => ?_, (h.pl b hb).2.2⟩⟩
  · rcases hn b hb with rfl | h1
    · exact h.d12 b hb e
    · have := (own_ge h.o2 b e).2; omega
  · rcases hn b hb with rfl | h1
    · exact h.d13 b hb e
    · have := (own_ge h.o3 b e).2; omega
  · rcases hn b e with rfl | h1
    · exact (h.pl b hb).2.1 e
    · have := (h.pl b hb).1; omega
theorem Tri.app2 {a2' : Option Addr} {n2' c2' : Nat} {ds' : List Value} (h : Tri base w L a1 n1 c1 xs a2 n2 c2 ds a3 n3 c3 es) (ho : w'.ownsRow base 29 7 (.slice a2' n2' c2') n2' ds') (hk : Keeps (mine base a2) w w') (hn : Near base w a2 a2') : Tri base w' L a1 n1 c1 xs a2' n2' c2' ds' a3 n3 c3 es := by
  refine ⟨h.o1.keep hk (fun b hb e => h.d12 b hb e.2), ho, own_keep h.o3 hk (fun b hb e => h.d23 b e.2 hb), fun b hb e => ?_, h.d13, fun b hb e => ?_, fun b hb => ⟨Nat.lt_of_lt_of_le (h.pl b hb).1 hk.size, (h.pl b hb).2.1, fun e => ?_, (h.pl b hb).2.2.2⟩⟩
  · rcases hn b e with rfl | h1
    · exact h.d12 b hb e
    · have := (h.o1.ge b hb).2; omega
  · rcases hn b hb with rfl | h1
    · exact h.d23 b hb e
    · have := (own_ge h.o3 b e).2; omega
  · rcases hn b e with rfl | h1
    · exact (h.pl b hb).2.2.1 e
    · have := (h.pl b hb).1; omega
theorem Tri.app3 {a3' : Option Addr} {n3' c3' : Nat} {es' : List Value} (h : Tri base w L a1 n1 c1 xs a2 n2 c2 ds a3 n3 c3 es) (ho : w'.ownsRow base 24 1 (.slice a3' n3' c3') n3' es') (hk : Keeps (mine base a3) w w') (hn : Near base w a3 a3') : Tri base w' L a1 n1 c1 xs a2 n2 c2 ds a3' n3' c3' es' := by
  refine ⟨h.o1.keep hk (fun b hb e => h.d13 b hb e.2), own_keep h.o2 hk (fun b hb e => h.d23 b hb e.2), ho, h.d12, fun b hb e => ?_, fun b hb e => ?_, fun b hb => ⟨Nat.lt_of_lt_of_le (h.pl b hb).1 hk.size, (h.pl b hb).2.1, (h.pl b hb).2.2.1, fun e => ?_⟩⟩
  · rcases hn b e with rfl | h1
    · exact h.d13 b hb e
    · have := (h.o1.ge b hb).2; omega
  · rcases hn b e with rfl | h1
    · exact h.d23 b hb e
    · have := (own_ge h.o2 b hb).2; omega
  · rcases hn b e with rfl | h1
    · exact (h.pl b hb).2.2.2 e
    · have := (h.pl b hb).1; omega

theorem Tri.blk1 {b : Nat} {cs : Array Value} {t : TypeId} (h : Tri base w L a1 n1 c1 xs a2 n2 c2 ds a3 n3 c3 es) (hb : b ∈ L) (hk : Keeps (mine base a1) w w') (hc : Blk w b cs t) : Blk w' b cs t := hk.blk hc (fun e => (h.pl b hb).2.1 e.2)
theorem Tri.blk2 {b : Nat} {cs : Array Value} {t : TypeId} (h : Tri base w L a1 n1 c1 xs a2 n2 c2 ds a3 n3 c3 es) (hb : b ∈ L) (hk : Keeps (mine base a2) w w') (hc : Blk w b cs t) : Blk w' b cs t := hk.blk hc (fun e => (h.pl b hb).2.2.1 e.2)
theorem Tri.blk3 {b : Nat} {cs : Array Value} {t : TypeId} (h : Tri base w L a1 n1 c1 xs a2 n2 c2 ds a3 n3 c3 es) (hb : b ∈ L) (hk : Keeps (mine base a3) w w') (hc : Blk w b cs t) : Blk w' b cs t := hk.blk hc (fun e => (h.pl b hb).2.2.2 e.2)
end

/-- One element that lies in a block of its own, as what is appended. -/
theorem src_blk {w : World} {b k : Nat} {cs : Array Value} {t e st : TypeId} (h : Blk w b cs t) (hst : Try.prog.underlying st = some (.slice e)) (hk : cs.size = k) (h1 : ∀ u ∈ cs.toList, u.oneCell' = true) : Src Try.prog k st (.slice (some ⟨b, 0, none⟩) 1 1) 1 cs.toList w := by
  subst hk
  refine Src.ofSlice _ hst _ _ _ _ (by simp) (fun j u hj => ?_) h1
  rw [Go.WideShapes.add_plain, Nat.zero_add, h.cell j]
  simpa using hj

section
variable {P : Program} {ops : Array Oper} {Q : Exit → Act → World → Prop} {md : Region.Mode} {S : World → Prop}

theorem op_do {i : Nat} {o : Oper} {a : Act} {w : World} {K : Act → World → Prop} (v : Value) (w' : World) (ho : ops[i]? = some o) (hw : Region.wanted o (yielded ops a.tmps) = true)
    (hrun : (execOp a.eval o).run P w = .ok (.value v) w') (h : K (a.put o.dst v) w') : wpOp P ops Q i K a w := by
  refine wpOp_step ho fun K' hK => ?_
  rw [if_pos hw]
  unfold Oper.wp
  rw [hrun, Oper.upon_value]
  exact hK _ _ h

theorem op_make {i : Nat} {o : Oper} {a : Act} {w : World} {K : Act → World → Prop} (v : Value) (ob : Obj) (ho : ops[i]? = some o) (hw : Region.wanted o (yielded ops a.tmps) = true)
    (hrun : (execOp a.eval o).run P w = .ok (.value v) (w.alloc ob)) (h : ∀ w' : World, w.alloc ob = w' → K (a.put o.dst v) w') : wpOp P ops Q i K a w :=
  op_do v (w.alloc ob) ho hw hrun (h _ rfl)

theorem op_app {i : Nat} {o : Oper} {ac : Act} {w : World} {K : Act → World → Prop} (ho : ops[i]? = some o) (hw : Region.wanted o (yielded ops ac.tmps) = true)
    (s x : Operand) (t tx : TypeId) (hop : o.op = Op.call { callee := Callee.builtin Builtin.append, args := #[s, x], argTypes := #[t, tx] }) (base : Nat) (e : TypeId) (inf : TypeInfo) (z : Value) (size bytes : Nat)
    (h1 : P.underlying t = some (.slice e)) (h2 : P.info? e = some inf) (h3 : inf.zero = some z) (h4 : inf.size = size) (h5 : inf.bytes = bytes) (h6 : z.cells.size = size)
    (a : Option Addr) (n cap : Nat) (cs : List Value) (hs : ac.eval s = .slice a n cap) (hd : Dst base e size w a n cap cs) (u : Value) (hx : ac.eval x = u) (m : Nat) (news : List Value) (hsrc : Src P size tx u m news w)
    (b1 : n + m ≤ maxLen) (b2 : (n + m) * bytes ≤ 140737488355328) (hb : base ≤ w.heap.size)
    (hK : ∀ a' cap' w', Dst base e size w' a' (n + m) cap' (cs ++ news) → Keeps (mine base a) w w' → Near base w a a' →
      (0 < m → w'.ownsRow base e size (.slice a' (n + m) cap') (n + m) (cs ++ news)) → (m = 0 → cap' = cap ∧ a' = a ∧ w' = w) → K (ac.put o.dst (.slice a' (n + m) cap')) w') : wpOp P ops Q i K ac w := by
  refine wpOp_step ho fun K' hK' => ?_
  rw [if_pos hw]
  obtain ⟨a', cap', w', hrun, r1, r2, r3, r4, r5⟩ := run_app (P := P) w base t tx o.type e inf z size bytes h1 h2 h3 h4 h5 h6 a n cap cs hd u m news hsrc b1 b2 hb
  unfold Oper.wp
  simp [execOp, hop, resolve, invoke, builtin, hs, hx, hrun, Result.andThen]
  exact hK' _ _ (hK a' cap' w' r1 r2 r3 r4 r5)
end

end Go.Proofs.Ytaokhgpidifedaa
