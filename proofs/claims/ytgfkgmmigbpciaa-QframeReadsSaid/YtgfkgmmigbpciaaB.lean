/- Slices in memory: what one reads as; append, whatever its arguments; slices of bytes. No program in sight. -/
import Derived.Test.YtgfkgmmigbpciaaV
import Derived.Deep.AppendSrc
import Derived.Deep.Upon
namespace Go.Proofs.Ytgfkgmmigbpciaa
set_option linter.unusedSimpArgs false
set_option linter.unusedVariables false
open Go.RowKit Go.Deep Go.ChangeShapes Go.WideShapes

/-- The walk stops here. -/
def Halted (p : Prop) : Prop := p
theorem halt {p : Prop} (h : Halted p) : p := h
theorem Halted.go {p : Prop} (h : p) : Halted p := h

/-- A slice of n elements of 'size' cells each reads as the cells cs. -/
structure Vw (w : World) (a : Option Addr) (n cap size : Nat) (cs : List Value) : Prop where
 le : n ≤ cap
 max : cap ≤ maxLen
 len : cs.length = n * size
 at_ : cs = [] ∨ ∃ b off, a = some ⟨b, off, none⟩ ∧ b < w.heap.size ∧ ∀ j u, cs[j]? = some u → w.cell? ⟨b, off + j, none⟩ = some u

theorem Vw.keep {w w' : World} {S : Nat → Prop} {a : Option Addr} {n cap size : Nat} {cs : List Value} (h : Vw w a n cap size cs) (k : Keeps S w w') (hs : ∀ b, a.map (·.block) = some b → ¬ S b) : Vw w' a n cap size cs := by
 refine ⟨h.le, h.max, h.len, ?_⟩
 rcases h.at_ with h0 | ⟨b, off, rfl, hb, hc⟩
 ·exact .inl h0
 ·refine .inr ⟨b, off, rfl, Nat.lt_of_lt_of_le hb k.size, fun j u hj => ?_⟩
  rw [World.cell?_of_block (w := w) (a := ⟨b, off + j, none⟩) (k.block b hb (hs b rfl))]
  exact hc j u hj

theorem Vw.below {w w' : World} {B : Nat} {a : Option Addr} {n cap size : Nat} {cs : List Value} (h : Vw w a n cap size cs) (k : Below B w w') (hs : ∀ b, a.map (·.block) = some b → b < B) : Vw w' a n cap size cs :=
 h.keep (Below.keeps k) (fun b hb hle => absurd (hs b hb) (by omega))

theorem Vw.nil (w : World) (size : Nat) : Vw w none 0 0 size [] := ⟨Nat.le_refl _, Nat.zero_le _, by simp, .inl rfl⟩

theorem Vw.alloc {w : World} {a : Option Addr} {n cap size : Nat} {cs : List Value} (h : Vw w a n cap size cs) (o : Obj) : Vw (w.alloc o) a n cap size cs :=
 h.keep (S := fun _ => False) ((Keeps.refl _ _).alloc o) (fun _ _ h => h)

theorem Vw.drewN {w : World} {a : Option Addr} {n cap size : Nat} {cs : List Value} (h : Vw w a n cap size cs) (k : Nat) : Vw (w.drewN k) a n cap size cs := ⟨h.le, h.max, h.len, h.at_⟩
theorem Vw.drew {w : World} {a : Option Addr} {n cap size : Nat} {cs : List Value} (h : Vw w a n cap size cs) : Vw w.drew a n cap size cs := ⟨h.le, h.max, h.len, h.at_⟩

/-- A slice that may be appended to: a row of one's own, from block base on; or one that is full. -/
def Dst (base : Nat) (e : TypeId) (size : Nat) (w : World) (a : Option Addr) (n cap : Nat) (cs : List Value) : Prop :=
 w.ownsRow base e size (.slice a n cap) n cs ∨ (cap = n ∧ Vw w a n cap size cs ∧ ∀ b, a.map (·.block) = some b → b < w.heap.size ∧ (base ≤ b → ∀ o, w.frozen? ⟨b, o, none⟩ = false))

theorem own_vw {w : World} {base : Nat} {e : TypeId} {size : Nat} {a : Option Addr} {n cap : Nat} {cs : List Value} (h : w.ownsRow base e size (.slice a n cap) n cs) : Vw w a n cap size cs := by
 rcases h.2 with ⟨hv, h0⟩ | ⟨g, cap', cur, hv, hb, hg, hn, hc, hs, ht⟩
 ·cases hv
  exact ⟨Nat.le_refl _, Nat.zero_le _, h.1, .inl (List.eq_nil_of_length_eq_zero (by simpa using h.1))⟩
 ·cases hv
  refine ⟨hn, hc, h.1, .inr ⟨g, 0, rfl, lt_of_block hg, fun j u hj => ?_⟩⟩
  have := h.cells (g := g) rfl j u hj
  rwa [add_plain] at this

theorem Dst.vw {w : World} {base : Nat} {e : TypeId} {size : Nat} {a : Option Addr} {n cap : Nat} {cs : List Value} (h : Dst base e size w a n cap cs) : Vw w a n cap size cs := by
 rcases h with h | ⟨_, h, _⟩
 ·exact own_vw h
 ·exact h
theorem Keeps.free {w w' : World} {S : Nat → Prop} (k : Keeps S w w') {b : Nat} (hb : b < w.heap.size) (hs : ¬ S b) (o : Nat) : w'.frozen? ⟨b, o, none⟩ = w.frozen? ⟨b, o, none⟩ := by
 unfold World.frozen?
 rw [k.block b hb hs]

theorem Dst.alloc {w : World} {base : Nat} {e : TypeId} {size : Nat} {a : Option Addr} {n cap : Nat} {cs : List Value} (h : Dst base e size w a n cap cs) (o : Obj) : Dst base e size (w.alloc o) a n cap cs := by
 rcases h with h | ⟨h1, h2, h3⟩
 ·exact .inl (h.alloc o)
 ·have k : Keeps (fun _ => False) w (w.alloc o) := (Keeps.refl _ w).alloc o
  exact .inr ⟨h1, h2.alloc o, fun b hb => ⟨Nat.lt_of_lt_of_le (h3 b hb).1 k.size, fun hB o => by rw [k.free (h3 b hb).1 (fun h => h)]; exact (h3 b hb).2 hB o⟩⟩

theorem own_keep {w w' : World} {S : Nat → Prop} {base : Nat} {e : TypeId} {size : Nat} {a : Option Addr} {n cap : Nat} {cs : List Value} (h : w.ownsRow base e size (.slice a n cap) n cs) (k : Keeps S w w') (hs : ∀ b, a.map (·.block) = some b → ¬ S b) : w'.ownsRow base e size (.slice a n cap) n cs := by
 refine ⟨h.1, ?_⟩
 rcases h.2 with h0 | ⟨g, cap', cur, hv, hb, hg, rest⟩
 ·exact .inl h0
 ·refine .inr ⟨g, cap', cur, hv, hb, ?_, rest⟩
  cases hv
  rw [k.block g (lt_of_block hg) (hs g rfl)]
  exact hg

theorem Dst.keep {w w' : World} {S : Nat → Prop} {base : Nat} {e : TypeId} {size : Nat} {a : Option Addr} {n cap : Nat} {cs : List Value} (h : Dst base e size w a n cap cs) (k : Keeps S w w') (hs : ∀ b, a.map (·.block) = some b → ¬ S b) : Dst base e size w' a n cap cs := by
 rcases h with h | ⟨h1, h2, h3⟩
 ·exact .inl (own_keep h k hs)
 ·exact .inr ⟨h1, h2.keep k hs, fun b hb => ⟨Nat.lt_of_lt_of_le (h3 b hb).1 k.size, fun hB o => by rw [k.free (h3 b hb).1 (hs b hb)]; exact (h3 b hb).2 hB o⟩⟩

theorem Dst.nil (base : Nat) (e : TypeId) (size : Nat) (w : World) : Dst base e size w none 0 0 [] := .inl (World.ownsRow_nil w base e size)

/-- What is appended: the cells of a slice. -/
theorem Vw.src {P : Program} {w : World} {a : Option Addr} {n cap size : Nat} {cs : List Value} (h : Vw w a n cap size cs) {t e : TypeId} (ht : P.underlying t = some (.slice e)) (h1 : ∀ u ∈ cs, u.oneCell' = true) : Src P size t (.slice a n cap) n cs w := by
 rcases h.at_ with rfl | ⟨b, off, rfl, hb, hc⟩
 ·cases a with
  | none =>
   have hl := h.len
   refine ⟨.inl ⟨e, ht⟩, fun _ => rfl, ?_, ?_, hl, h1⟩ <;> simp [Builtin.firstCells]
  | some a =>
   refine ⟨.inl ⟨e, ht⟩, fun _ => rfl, ?_, ?_, h.len, h1⟩
   ·have e0 : n * size = 0 := h.len.symm
    simp [Builtin.firstCells, e0, loadCells, loadCellsFrom]
   ·have e0 : n * size = 0 := h.len.symm
    simp [Builtin.firstCells, e0, loadCells, loadCellsFrom]
 ·exact Src.ofSlice w ht _ _ _ _ h.len (fun j u hj => by rw [add_plain]; exact hc j u hj) h1

section
variable {P : Program} (w : World)

theorem run_append_room_own (t tx ty e : TypeId) (i : TypeInfo) (ht : P.underlying t = some (.slice e)) (hi : P.info? e = some i)
  (g sLen sCap : Nat) (cur : Array Value) (hg : w.heap[g]? = some (.cells cur e (0, 0)))
  (x : Value) (m : Nat) (news : List Value) (hs : Src P i.size tx x m news w)
  (hroom : sLen + m ≤ sCap) (hfit : sLen * i.size + news.length ≤ cur.size) :
  (Builtin.append_ #[t, tx] ty #[.slice (some ⟨g, 0, none⟩) sLen sCap, x]).run P w =
   .ok (.slice (some ⟨g, 0, none⟩) (sLen + m) sCap) (w.setRow g (cur.toList.take (sLen * i.size) ++ news ++ cur.toList.drop (sLen * i.size + news.length)).toArray) := by
 have hst := run_storeCells_at P g (sLen * i.size) e news 0 cur w hg (by simpa using hfit) hs.one
 simp only [Nat.add_zero] at hst
 rcases hs.kind with ⟨e', hk⟩ | hk <;> simp [Builtin.append_, run_underlying ht, run_underlying hk, sizeOf, typeInfo, hi, hs.len, hroom, hs.cells, Addr.add_lit, hst]

theorem run_app (base : Nat) (t tx ty e : TypeId) (i : TypeInfo) (z : Value) (size bytes : Nat) (ht : P.underlying t = some (.slice e)) (hi : P.info? e = some i) (hz : i.zero = some z)
  (hsize : i.size = size) (hby : i.bytes = bytes) (hzs : z.cells.size = size)
  (a : Option Addr) (n cap : Nat) (cs : List Value) (hd : Dst base e size w a n cap cs) (x : Value) (m : Nat) (news : List Value) (hs : Src P size tx x m news w)
  (h63 : n + m ≤ maxLen) (hbytes : (n + m) * bytes ≤ 140737488355328) (hbase : base ≤ w.heap.size) :
  ∃ a' cap' w', (Builtin.append_ #[t, tx] ty #[.slice a n cap, x]).run P w = .ok (.slice a' (n + m) cap') w' ∧ Dst base e size w' a' (n + m) cap' (cs ++ news) ∧
   Keeps (fun k => base ≤ k ∧ a.map (·.block) = some k) w w' ∧ (∀ k, a'.map (·.block) = some k → a' = a ∨ (w.heap.size ≤ k ∧ base ≤ k)) ∧ (0 < m → w'.ownsRow base e size (.slice a' (n + m) cap') (n + m) (cs ++ news)) ∧ (m = 0 → cap' = cap ∧ a' = a ∧ w' = w) := by
 subst hsize
 subst hby
 have hsmall : n + m ≤ 9223372036854775807 := by simp only [maxLen] at h63; omega
 have hvw := hd.vw
 have hlen : (cs ++ news).length = (n + m) * i.size := by rw [List.length_append, hvw.len, hs.newsLen, Nat.add_mul]
 by_cases hm : m = 0
 ·subst hm
  obtain rfl : news = [] := List.eq_nil_of_length_eq_zero (by simpa using hs.newsLen)
  exact ⟨a, cap, w, run_append_nothing w t tx ty e i ht hi a n cap hvw.le x hs, by simpa using hd, Keeps.refl _ _, fun k _ => .inl rfl, fun h => absurd h (Nat.lt_irrefl 0), fun _ => ⟨rfl, rfl, rfl⟩⟩
 ·-- a new row
  have grown : cap < n + m → ∃ a' cap' w', (Builtin.append_ #[t, tx] ty #[.slice a n cap, x]).run P w = .ok (.slice a' (n + m) cap') w' ∧ Dst base e i.size w' a' (n + m) cap' (cs ++ news) ∧
   Keeps (fun k => base ≤ k ∧ a.map (·.block) = some k) w w' ∧ (∀ k, a'.map (·.block) = some k → a' = a ∨ (w.heap.size ≤ k ∧ base ≤ k)) ∧ (0 < m → w'.ownsRow base e i.size (.slice a' (n + m) cap') (n + m) (cs ++ news)) ∧ (m = 0 → cap' = cap ∧ a' = a ∧ w' = w) := by
   intro hg
   have hold : (Builtin.firstCells i.size n (.slice a n cap)).run P w.drew = .ok cs.toArray w.drew := by
    rcases hvw.at_ with rfl | ⟨b, off, rfl, hb, hc⟩
    ·have e0 : n * i.size = 0 := hvw.len.symm
     cases a <;> simp [Builtin.firstCells, e0, loadCells, loadCellsFrom]
    ·exact run_firstCells_some w.drew i.size n _ n cap cs hvw.len (fun j u hj => by rw [add_plain]; simpa using hc j u hj)
   have hr := run_append_grow_src (P := P) w t tx ty e i z ht hi hz a n cap cs hold x m news hs hg (by omega) (growslice_fits hg hbytes)
   have hge := grownCap_ge w (n + m) cap e
   have hcm : grownCap w (n + m) cap e ≤ maxLen := grownCap_le_maxLen w (n + m) cap e h63
   have hown : (w.drew.alloc (.cells ((cs ++ news).toArray ++ Builtin.zeroCells z.cells (grownCap w (n + m) cap e - (n + m))) e)).ownsRow base e i.size
     (.slice (some ⟨w.heap.size, 0, none⟩) (n + m) (grownCap w (n + m) cap e)) (n + m) (cs ++ news) := by
    refine ⟨hlen, .inr ⟨w.heap.size, _, _, rfl, hbase, heap_alloc_new w.drew _, hge, hcm, ?_, ?_⟩⟩
    ·simp only [Array.size_append, List.size_toArray, size_zeroCells, hzs, hlen, ← Nat.add_mul]
     congr 1
     omega
    ·simp only [Array.toList_append]
     rw [← hlen]
     exact List.take_left
   refine ⟨_, _, _, hr, .inl hown, ⟨rfl, rfl, rfl, by simp, fun k hk _ => Below.heap_alloc w.drew _ k hk⟩, fun k hk => .inr ?_, fun _ => hown, fun h => absurd h hm⟩
   simp at hk
   omega
  by_cases hroom : n + m ≤ cap
  ·rcases hd with hown | ⟨rfl, _⟩
   ·rcases hown.2 with ⟨hv, h0⟩ | ⟨g, cap', cur, hv, hbg, hg, hnc, hcm, hcs, htake⟩
    ·cases hv; omega
    ·cases hv
     have hfit : n * i.size + news.length ≤ cur.size := by rw [hs.newsLen, hcs, ← Nat.add_mul]; exact Nat.mul_le_mul_right _ hroom
     have hr := run_append_room_own (P := P) w t tx ty e i ht hi g n cap cur hg x m news hs hroom hfit
     have hown' : (w.setRow g (cur.toList.take (n * i.size) ++ news ++ cur.toList.drop (n * i.size + news.length)).toArray).ownsRow base e i.size (.slice (some ⟨g, 0, none⟩) (n + m) cap) (n + m) (cs ++ news) := by
      refine ⟨hlen, .inr ⟨g, cap, _, rfl, hbg, setRow_heap w g cur _ e _ hg, hroom, hcm, ?_, ?_⟩⟩
      ·simp only [List.size_toArray, List.length_append, List.length_take, List.length_drop, Array.length_toList]
       omega
      ·rw [htake, ← hlen]
       exact List.take_left
     exact ⟨_, _, _, hr, .inl hown', ⟨rfl, rfl, rfl, by simp, fun k _ hk => setRow_other w g k _ (fun e => hk (by subst e; exact ⟨hbg, rfl⟩))⟩, fun k _ => .inl rfl, fun _ => hown', fun h => absurd h hm⟩
   ·omega
  ·exact grown (by omega)

end

/-- What an append may write: the row that it is given, if it is one's own. -/
def mine (base : Nat) (a : Option Addr) (k : Nat) : Prop := base ≤ k ∧ a.map (·.block) = some k
/-- Where what it gives back lies. -/
def Near (base : Nat) (w : World) (a a' : Option Addr) : Prop := ∀ k, a'.map (·.block) = some k → a' = a ∨ (w.heap.size ≤ k ∧ base ≤ k)

theorem Near.refl (base : Nat) (w : World) (a : Option Addr) : Near base w a a := fun _ _ => .inl rfl
theorem Near.step {base : Nat} {S : Nat → Prop} {w w1 : World} {a a1 a2 : Option Addr} (h : Near base w a a1) (hk : Keeps S w w1) (h2 : Near base w1 a1 a2) : Near base w a a2 := by
 intro k hk2
 rcases h2 k hk2 with rfl | h'
 ·exact h k hk2
 ·have := hk.size; exact .inr (by omega)
theorem Keeps.step {base : Nat} {w w1 w2 : World} {a a1 : Option Addr} (h : Keeps (mine base a) w w1) (hn : Near base w a a1) (h2 : Keeps (mine base a1) w1 w2) : Keeps (mine base a) w w2 := by
 refine ⟨h2.os.trans h.os, h2.tape.trans h.tape, h2.output.trans h.output, Nat.le_trans h.size h2.size, fun k hkl hks => ?_⟩
 rw [h2.block k (Nat.lt_of_lt_of_le hkl h.size) (fun h' => ?_), h.block k hkl hks]
 rcases hn k h'.2 with rfl | h''
 ·exact hks h'
 ·omega
theorem Keeps.mine_below {B base : Nat} {w0 w w' : World} {a : Option Addr} (hb : Below B w0 w) (h : Keeps (mine base a) w w') (hB : B ≤ w.heap.size) (hbase : B ≤ base) : Below B w0 w' :=
 Keeps.below hb h hB (fun k hk => Nat.le_trans hbase hk.1)

/-- append at the operation. -/
theorem wpList_app {P : Program} (w : World) {ops : Array Oper} {rest : List Oper} {o : Oper} {ac : Act} {Q : Exit → Act → World → Prop} (hg : o.guard = none) (s x : Operand) (t tx : TypeId)
  (hop : o.op = Op.call { callee := Callee.builtin Builtin.append, args := #[s, x], argTypes := #[t, tx] }) (base : Nat) (e : TypeId) (i : TypeInfo) (z : Value) (size bytes : Nat)
  (h1 : P.underlying t = some (.slice e)) (h2 : P.info? e = some i) (h3 : i.zero = some z) (h4 : i.size = size) (h5 : i.bytes = bytes) (h6 : z.cells.size = size)
  (a : Option Addr) (n cap : Nat) (cs : List Value) (hs : ac.eval s = .slice a n cap) (hd : Dst base e size w a n cap cs) (u : Value) (hx : ac.eval x = u) (m : Nat) (news : List Value) (hsrc : Src P size tx u m news w)
  (b1 : n + m ≤ maxLen) (b2 : (n + m) * bytes ≤ 140737488355328) (hb : base ≤ w.heap.size)
  (hK : ∀ a' cap' w', Dst base e size w' a' (n + m) cap' (cs ++ news) → Keeps (mine base a) w w' → Near base w a a' →
   (0 < m → w'.ownsRow base e size (.slice a' (n + m) cap') (n + m) (cs ++ news)) → (m = 0 → cap' = cap ∧ a' = a ∧ w' = w) → wpList P ops Q rest (ac.put o.dst (.slice a' (n + m) cap')) w') : wpList P ops Q (o :: rest) ac w := by
 refine wpList_plain hg fun K hK' => ?_
 obtain ⟨a', cap', w', hrun, r1, r2, r3, r4, r5⟩ := run_app (P := P) w base t tx o.type e i z size bytes h1 h2 h3 h4 h5 h6 a n cap cs hd u m news hsrc b1 b2 hb
 unfold Oper.wp
 simp [execOp, hop, resolve, invoke, builtin, hs, hx, hrun, Result.andThen]
 exact hK' _ _ (hK a' cap' w' r1 r2 r3 r4 r5)

/-! ### Bytes -/
def B (c : UInt8) : Value := .int .u8 (c.toNat : Int)
def Bs (xs : List UInt8) : List Value := xs.map B

theorem Bs_one (xs : List UInt8) : ∀ u ∈ Bs xs, u.oneCell' = true := by
 intro u hu
 obtain ⟨c, _, rfl⟩ := List.mem_map.1 hu
 rfl
theorem Bs_append (xs ys : List UInt8) : Bs xs ++ Bs ys = Bs (xs ++ ys) := by simp [Bs]

/-- A slice of bytes reads as xs. -/
def By (w : World) (a : Option Addr) (n cap : Nat) (xs : List UInt8) : Prop := n = xs.length ∧ Vw w a n cap 1 (Bs xs)
/-- .. and may be appended to. -/
def Bd (base : Nat) (w : World) (a : Option Addr) (n cap : Nat) (xs : List UInt8) : Prop := n = xs.length ∧ Dst base 5 1 w a n cap (Bs xs)
/-- .. and is one's own. -/
def Bo (base : Nat) (w : World) (a : Option Addr) (n cap : Nat) (xs : List UInt8) : Prop := n = xs.length ∧ w.ownsRow base 5 1 (.slice a n cap) n (Bs xs)

theorem Bd.by {base : Nat} {w : World} {a : Option Addr} {n cap : Nat} {xs : List UInt8} (h : Bd base w a n cap xs) : By w a n cap xs := ⟨h.1, h.2.vw⟩
theorem Bo.bd {base : Nat} {w : World} {a : Option Addr} {n cap : Nat} {xs : List UInt8} (h : Bo base w a n cap xs) : Bd base w a n cap xs := ⟨h.1, .inl h.2⟩
theorem Bo.by {base : Nat} {w : World} {a : Option Addr} {n cap : Nat} {xs : List UInt8} (h : Bo base w a n cap xs) : By w a n cap xs := h.bd.by
theorem By.full {base : Nat} {w : World} {a : Option Addr} {n : Nat} {xs : List UInt8} (h : By w a n n xs) (hlt : ∀ b, a.map (·.block) = some b → b < base) (hB : base ≤ w.heap.size) : Bd base w a n n xs := ⟨h.1, .inr ⟨rfl, h.2, fun b hb => ⟨Nat.lt_of_lt_of_le (hlt b hb) hB, fun h => absurd (hlt b hb) (Nat.not_lt_of_le h)⟩⟩⟩
theorem By.nil (w : World) : By w none 0 0 [] := ⟨rfl, Vw.nil w 1⟩
theorem Bo.nil (base : Nat) (w : World) : Bo base w none 0 0 [] := ⟨rfl, World.ownsRow_nil w base _ 1⟩

theorem By.keep {w w' : World} {S : Nat → Prop} {a : Option Addr} {n cap : Nat} {xs : List UInt8} (h : By w a n cap xs) (k : Keeps S w w') (hs : ∀ b, a.map (·.block) = some b → ¬ S b) : By w' a n cap xs := ⟨h.1, h.2.keep k hs⟩
theorem By.below {w w' : World} {B : Nat} {a : Option Addr} {n cap : Nat} {xs : List UInt8} (h : By w a n cap xs) (k : Below B w w') (hs : ∀ b, a.map (·.block) = some b → b < B) : By w' a n cap xs := ⟨h.1, h.2.below k hs⟩
theorem Bd.keep {base : Nat} {w w' : World} {S : Nat → Prop} {a : Option Addr} {n cap : Nat} {xs : List UInt8} (h : Bd base w a n cap xs) (k : Keeps S w w') (hs : ∀ b, a.map (·.block) = some b → ¬ S b) : Bd base w' a n cap xs := ⟨h.1, h.2.keep k hs⟩
theorem Bo.keep {base : Nat} {w w' : World} {S : Nat → Prop} {a : Option Addr} {n cap : Nat} {xs : List UInt8} (h : Bo base w a n cap xs) (k : Keeps S w w') (hs : ∀ b, a.map (·.block) = some b → ¬ S b) : Bo base w' a n cap xs := ⟨h.1, own_keep h.2 k hs⟩
theorem Bo.mono {base base' : Nat} {w : World} {a : Option Addr} {n cap : Nat} {xs : List UInt8} (h : Bo base w a n cap xs) (hb : base' ≤ base) : Bo base' w a n cap xs := by
 refine ⟨h.1, h.2.1, ?_⟩
 rcases h.2.2 with h0 | ⟨g, cap', cur, hv, hg, rest⟩
 ·exact .inl h0
 ·exact .inr ⟨g, cap', cur, hv, by omega, rest⟩

/-- The block of what is one's own lies from base on. -/
theorem Bo.ge {base : Nat} {w : World} {a : Option Addr} {n cap : Nat} {xs : List UInt8} (h : Bo base w a n cap xs) : ∀ b, a.map (·.block) = some b → base ≤ b ∧ b < w.heap.size := by
 intro b hb
 refine h.2.lt b ?_
 cases a with
 | none => cases hb
 | some a => simpa [Value.ownBlock] using hb

/-- Byte i of a slice of bytes. -/
theorem By.get {w : World} {a : Option Addr} {n cap : Nat} {xs : List UInt8} (h : By w a n cap xs) (hn : 0 < n) :
  ∃ b off, a = some ⟨b, off, none⟩ ∧ b < w.heap.size ∧ ∀ i (hi : i < xs.length), w.cell? ⟨b, off + i, none⟩ = some (.int .u8 (xs[i].toNat : Int)) := by
 rcases h.2.at_ with h0 | ⟨b, off, ha, hb, hc⟩
 ·have : xs = [] := by simpa [Bs] using h0
  have := h.1
  simp_all
 ·exact ⟨b, off, ha, hb, fun i hi => hc i _ (by simp [Bs, B, hi])⟩

theorem sub_slice {α : Type} (l : List α) (lo hi : Nat) (h : hi ≤ l.length) (j : Nat) (u : α) (hj : ((l.drop lo).take (hi - lo))[j]? = some u) : l[lo + j]? = some u := by
 rw [List.getElem?_take] at hj
 split at hj
 ·rwa [List.getElem?_drop] at hj
 ·cases hj

/-- v[lo:hi]. -/
theorem Vw.sub {w : World} {a : Option Addr} {n cap : Nat} {cs : List Value} (h : Vw w a n cap 1 cs) (lo hi : Nat) (h1 : lo ≤ hi) (h2 : hi ≤ n) :
  Vw w (if cap = lo then a else a.map (·.add (lo * 1))) (hi - lo) (cap - lo) 1 ((cs.drop lo).take (hi - lo)) := by
 have hl := h.len
 have hc := h.le
 have hm := h.max
 refine ⟨by omega, by omega, by simp; omega, ?_⟩
 rcases h.at_ with rfl | ⟨b, off, rfl, hb, hcell⟩
 ·exact .inl (by simp)
 ·by_cases he : cap = lo
  ·refine .inl ?_
   have : hi - lo = 0 := by omega
   rw [this, List.take_zero]
  ·refine .inr ⟨b, off + lo, ?_, hb, fun j u hj => ?_⟩
   ·rw [if_neg he]
    simp [add_plain]
   ·have := hcell (lo + j) u (sub_slice cs lo hi (by omega) j u hj)
    rwa [← Nat.add_assoc] at this

theorem By.sub {w : World} {a : Option Addr} {n cap : Nat} {xs : List UInt8} (h : By w a n cap xs) (lo hi : Nat) (h1 : lo ≤ hi) (h2 : hi ≤ n) :
  By w (if cap = lo then a else a.map (·.add (lo * 1))) (hi - lo) (cap - lo) ((xs.drop lo).take (hi - lo)) := by
 have hn := h.1
 refine ⟨by simp; omega, ?_⟩
 have := h.2.sub lo hi h1 h2
 rwa [show Bs ((xs.drop lo).take (hi - lo)) = ((Bs xs).drop lo).take (hi - lo) by simp [Bs, List.map_take, List.map_drop]]

theorem foldl_push_u8 : ∀ (xs : List UInt8) (s : ByteArray), (xs.map fun c => (c.toNat : Int)).foldl (fun r n => r.push (UInt8.ofNat n.toNat)) s = ⟨s.data ++ xs.toArray⟩ := by
 intro xs
 induction xs with
 | nil => intro s; simp
 | cons c xs ih =>
  intro s
  rw [List.map_cons, List.foldl_cons, ih]
  simp [ByteArray.push]

/-- string(b). -/
theorem By.str {P : Program} {w : World} {a : Option Addr} {n cap : Nat} {xs : List UInt8} (h : By w a n cap xs) (src e dst : TypeId) (hs : P.underlying src = some (.slice e)) (he : P.underlying e = some (.int .u8)) (hd : P.underlying dst = some .string) :
  (convert src dst (.slice a n cap)).run P w = .ok (.string ⟨xs.toArray⟩) w := by
 obtain ⟨hn, hv⟩ := h
 by_cases h0 : xs = []
 ·subst h0
  simp at hn
  subst hn
  rw [run_convert_bytes_string w src dst e _ 0 cap hs he hd]
  cases a with
  | none => simp [Conv.bytesToString]; rfl
  | some a => 
   have hl : (loadCells a 0).run P w = .ok (([] : List Int).map (Value.int .u8)).toArray w := by simp [loadCells, loadCellsFrom]
   rw [run_bytesToString w _ 0 cap [] hl]
   rfl
 ·rcases hv.at_ with h1 | ⟨b, off, rfl, hb, hc⟩
  ·exact absurd (by simpa [Bs] using h1) h0
  ·have hl : (loadCells ⟨b, off, none⟩ n).run P w = .ok ((xs.map fun c => (c.toNat : Int)).map (Value.int .u8)).toArray w := by
    have := run_loadCells_list (P := P) w ⟨b, off, none⟩ (Bs xs) (fun j v hj => by rw [add_plain]; exact hc j v hj)
    have e1 : (Bs xs).length = n := by simp [Bs, hn]
    rw [e1] at this
    have e2 : Bs xs = (xs.map fun c => (c.toNat : Int)).map (Value.int .u8) := by simp only [Bs, List.map_map]; exact List.map_congr_left fun _ _ => rfl
    rwa [e2] at this
   rw [run_convert_bytes_string w src dst e _ n cap hs he hd, run_bytesToString w _ n cap _ hl, foldl_push_u8]
   simp [ByteArray.empty, ByteArray.emptyWithCapacity]
   rfl

/-- The cell that append(b, x) has made for x. -/
theorem src_one {P : Program} {t e : TypeId} (ht : P.underlying t = some (.slice e)) (w : World) (x : Value) (h1 : x.oneCell' = true) (e' : TypeId) :
  Src P 1 t (.slice (some ⟨w.heap.size, 0, none⟩) 1 1) 1 [x] (w.alloc (.cells #[x] e' (0, 0))) :=
 Src.ofSlice _ ht _ _ _ _ rfl (cell_one_new _ _ _) (fun u hu => by simp at hu; subst hu; exact h1)

/-- A number's lowest byte. -/
def byt (x : Int) : UInt8 := UInt8.ofNat (x % 256).toNat
theorem byt_val (x : Int) : ((byt x).toNat : Int) = x % 256 := by
 have h0 : 0 ≤ x % 256 := Int.emod_nonneg _ (by omega)
 have h1 : x % 256 < 256 := Int.emod_lt_of_pos _ (by omega)
 unfold byt
 rw [UInt8.toNat_ofNat']
 omega
theorem B_byt (x : Int) : Value.int .u8 (x % 256) = B (byt x) := by unfold B; rw [byt_val]

theorem info8 : (Try.prog.info? 5).map (fun i => (i.zero, i.size, i.bytes)) = some (some (.int .u8 0), 1, 1) := by kernel_rfl

/-- append on a slice of bytes. -/
theorem wpList_app8 (w : World) {ops : Array Oper} {rest : List Oper} {o : Oper} {ac : Act} {Q : Exit → Act → World → Prop} (hg : o.guard = none) (s x : Operand) (tx : TypeId)
  (hop : o.op = Op.call { callee := Callee.builtin Builtin.append, args := #[s, x], argTypes := #[22, tx] }) (base : Nat)
  (a : Option Addr) (n cap : Nat) (xs : List UInt8) (hs : ac.eval s = .slice a n cap) (hd : Bd base w a n cap xs) (u : Value) (hx : ac.eval x = u) (ys : List UInt8) (hsrc : Src Try.prog 1 tx u ys.length (Bs ys) w)
  (b1 : n + ys.length ≤ 140737488355328) (hb : base ≤ w.heap.size)
  (hK : ∀ a' cap' w', Bd base w' a' (n + ys.length) cap' (xs ++ ys) → Keeps (mine base a) w w' → Near base w a a' →
   (0 < ys.length → Bo base w' a' (n + ys.length) cap' (xs ++ ys)) → (ys.length = 0 → cap' = cap ∧ a' = a ∧ w' = w) → wpList Try.prog ops Q rest (ac.put o.dst (.slice a' (n + ys.length) cap')) w') : wpList Try.prog ops Q (o :: rest) ac w := by
 obtain ⟨i, hi, hz, hs1, hs2⟩ := info_parts info8
 have hn := hd.1
 refine wpList_app w hg s x 22 tx hop base 5 i _ 1 1 Try.underlying22 hi hz hs1 hs2 rfl a n cap (Bs xs) hs hd.2 u hx ys.length (Bs ys) hsrc (by simp only [maxLen]; omega) (by omega) hb ?_
 intro a' cap' w' h1 h2 h3 h4 h5
 rw [Bs_append] at h1 h4
 exact hK a' cap' w' ⟨by simp; omega, h1⟩ h2 h3 (fun h => ⟨by simp; omega, h4 h⟩) h5

/-- append(b, x). -/
theorem wpList_push8 (w : World) {ops : Array Oper} {rest : List Oper} {o : Oper} {ac : Act} {Q : Exit → Act → World → Prop} (hg : o.guard = none) (s x : Operand)
  (c : UInt8) (v : Value) (hv : v = B c)
  (hop : o.op = Op.call { callee := Callee.builtin Builtin.append, args := #[s, x], argTypes := #[22, 22] }) (base : Nat)
  (a : Option Addr) (n cap : Nat) (xs : List UInt8) (hs : ac.eval s = .slice a n cap) (hd : Bd base w a n cap xs) (hx : ac.eval x = .slice (some ⟨w.heap.size, 0, none⟩) 1 1)
  (b1 : n + 1 ≤ 140737488355328) (hb : base ≤ w.heap.size)
  (hK : ∀ a' cap' w', Bo base w' a' (n + 1) cap' (xs ++ [c]) → Keeps (mine base a) w w' → Near base w a a' →
   wpList Try.prog ops Q rest (ac.put o.dst (.slice a' (n + 1) cap')) w') : wpList Try.prog ops Q (o :: rest) ac (w.alloc (.cells #[v] 5 (0, 0))) := by
 subst hv
 refine wpList_app8 _ hg s x 22 hop base a n cap xs hs ⟨hd.1, hd.2.alloc _⟩ _ hx [c] (src_one Try.underlying22 w (B c) rfl 5) b1 (by simp; omega) ?_
 intro a' cap' w' h1 h2 h3 h4 _
 refine hK a' cap' w' (h4 (by simp)) ?_ ?_
 ·exact ((Keeps.refl _ w).alloc _).trans h2
 ·intro k hk
  rcases h3 k hk with h | h
  ·exact .inl h
  ·simp at h
   exact .inr (by omega)

/-- append([]byte(nil), b...). -/
theorem wpList_copy8 (w : World) {ops : Array Oper} {rest : List Oper} {o : Oper} {ac : Act} {Q : Exit → Act → World → Prop} (hg : o.guard = none) (x : Operand)
  (hop : o.op = Op.call { callee := Callee.builtin Builtin.append, args := #[Operand.const (.slice none 0 0), x], argTypes := #[22, 22] })
  (a : Option Addr) (n cap : Nat) (xs : List UInt8) (hx : ac.eval x = .slice a n cap) (hb : By w a n cap xs) (hn : n ≤ 140737488355328)
  (hK : ∀ a' cap' w', Bo w.heap.size w' a' n cap' xs → Below w.heap.size w w' → wpList Try.prog ops Q rest (ac.put o.dst (.slice a' n cap')) w') : wpList Try.prog ops Q (o :: rest) ac w := by
 obtain ⟨rfl, hv⟩ := hb
 refine wpList_app8 w hg (Operand.const (.slice none 0 0)) x 22 hop w.heap.size none 0 0 [] rfl (Bo.nil _ w).bd _ hx xs (hv.src Try.underlying22 (Bs_one xs)) (by omega) (Nat.le_refl _) ?_
 intro a' cap' w' h1 h2 h3 h4 h5
 simp only [Nat.zero_add, List.nil_append] at h1 h2 h3 h4 ⊢
 refine hK a' cap' w' ?_ (Keeps.below (Below.refl _ _) h2 (Nat.le_refl _) (fun k hk => hk.1))
 by_cases h0 : xs.length = 0
 ·obtain ⟨rfl, rfl, rfl⟩ := h5 h0
  obtain rfl : xs = [] := List.eq_nil_of_length_eq_zero h0
  exact Bo.nil _ _
 ·exact h4 (by omega)

/-- A row of one's own, cell by cell. -/
theorem Bo.row {base : Nat} {w : World} {a : Option Addr} {n cap : Nat} {xs : List UInt8} (h : Bo base w a n cap xs) (hn : 0 < n) :
  ∃ g, a = some ⟨g, 0, none⟩ ∧ base ≤ g ∧ g < w.heap.size ∧ (∀ i (hi : i < xs.length), w.cell? ⟨g, i, none⟩ = some (.int .u8 (xs[i].toNat : Int))) ∧ ∀ i, w.frozen? ⟨g, i, none⟩ = false := by
 obtain ⟨hl, h1, h2⟩ := h
 rcases h2 with ⟨hv, h0⟩ | ⟨g, cap', cur, hv, hg, hb, hnc, hcm, hs, ht⟩
 ·omega
 ·cases hv
  have ho : w.ownsRow base 5 1 (.slice (some ⟨g, 0, none⟩) n cap) n (Bs xs) := ⟨h1, .inr ⟨g, cap, cur, rfl, hg, hb, hnc, hcm, hs, ht⟩⟩
  refine ⟨g, rfl, hg, lt_of_block hb, fun i hi => ?_, fun i => ho.frozenAt i⟩
  rw [ho.cellAt i (by omega)]
  simp [Bs, B, hi]

/-- A store into a row of one's own. -/
theorem Bo.set {base : Nat} {w : World} {g n cap : Nat} {xs : List UInt8} (h : Bo base w (some ⟨g, 0, none⟩) n cap xs) (i : Nat) (hi : i < n) (c : UInt8) :
  Bo base (w.setCell ⟨g, i, none⟩ (B c)) (some ⟨g, 0, none⟩) n cap (xs.set i c) := by
 obtain ⟨hl, ho⟩ := h
 refine ⟨by simp; exact hl, ?_⟩
 have := (ho.stored i (B c)).1
 rwa [show Bs (xs.set i c) = (Bs xs).set i (B c) by simp [Bs, List.map_set]]

end Go.Proofs.Ytgfkgmmigbpciaa
