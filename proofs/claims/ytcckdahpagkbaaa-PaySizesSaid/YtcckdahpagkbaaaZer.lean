/- append of zeros: append(b, make([]byte, n)...). -/
import Derived.Test.YtcckdahpagkbaaaNumI
import Derived.Lib.AppendZeros
namespace Go.Proofs.Ytcckdahpagkbaaa
open Go.RowKit Go.Deep Go.ChangeShapes Go.WideShapes

theorem zeros_toList (m : Nat) : Builtin.zeroCells (Value.int .u8 0).cells m = (Bs (List.replicate m 0)).toArray := by
  apply Array.ext
  · simp [Builtin.zeroCells, Bs, Value.cells]
  · intro i h1 h2
    simp [Builtin.zeroCells, Bs, Value.cells, B]
    have : i % 1 = 0 := by omega
    simp [this]

section
variable {P : Program} (w : World)

theorem run_zeros_grow (t tn ty e : TypeId) (i : TypeInfo) (kn : IntKind) (ht : P.underlying t = some (.slice e)) (htn : P.underlying tn = some (.int kn)) (hi : P.info? e = some i) (hz : i.zero = some (.int .u8 0)) (hsz : i.size = 1) (hby : i.bytes = 1) (base : Option Addr) (sLen sCap : Nat) (olds : List Value)
    (hold : (Builtin.firstCells i.size sLen (.slice base sLen sCap)).run P w.drew = .ok olds.toArray w.drew) (m : Nat) (h0 : 0 < m)
    (hg : sCap < sLen + m) (h63 : sLen + m ≤ 140737488355328) :
    (Builtin.append_ #[t, tn] ty #[.slice base sLen sCap, .int .i64 m]).run P w =
      .ok (.slice (some ⟨w.heap.size, 0, none⟩) (sLen + m) (grownCap w (sLen + m) sCap e))
        (w.drew.alloc (.cells ((olds ++ Bs (List.replicate m 0)).toArray ++ Builtin.zeroCells (Value.int .u8 0).cells (grownCap w (sLen + m) sCap e - (sLen + m))) e)) := by
  have hn : ¬ (sLen + m ≤ sCap) := by omega
  have hfit : Builtin.nextslicecap (sLen + m) sCap * i.bytes ≤ 281474976710656 := growslice_fits hg (by rw [hby]; omega)
  have h63' : ¬ (9223372036854775807 < ((sLen : Int) + (m : Int))) := by omega
  have h48' : ¬ (281474976710656 < Builtin.nextslicecap (sLen + m) sCap) := by rw [hby] at hfit; omega
  have h48i : ¬ (281474976710656 < (m : Int)) := by omega
  have hw : IntKind.i64.wrap (m : Int) = m := by rw [IntKind.wrap_i64]; omega
  have hneg : ¬ ((m : Int) < 0) := by omega
  have hns : ¬ (m = 0) := by omega
  rw [hsz] at hold
  have hzl := zeros_toList m
  simp [Builtin.append_, run_underlying ht, run_underlying htn, sizeOf, typeInfo, zeroValue, hi, hz, hsz, hby, asInt, asIntOf, hw, hn, hneg, hns, h63', h48', h48i, Question.forced, hold, newRow, grownCap, hzl]
  congr 2
  apply Array.ext'
  simp [List.append_assoc]

theorem run_zeros_room (t tn ty e : TypeId) (i : TypeInfo) (kn : IntKind) (ht : P.underlying t = some (.slice e)) (htn : P.underlying tn = some (.int kn)) (hi : P.info? e = some i) (hz : i.zero = some (.int .u8 0)) (hsz : i.size = 1) (hby : i.bytes = 1)
    (g sLen sCap : Nat) (cur : Array Value) (hg : w.heap[g]? = some (.cells cur e (0, 0))) (m : Nat) (h0 : 0 < m) (h63 : sLen + m ≤ 140737488355328)
    (hroom : sLen + m ≤ sCap) (hfit : sLen + m ≤ cur.size) :
    (Builtin.append_ #[t, tn] ty #[.slice (some ⟨g, 0, none⟩) sLen sCap, .int .i64 m]).run P w =
      .ok (.slice (some ⟨g, 0, none⟩) (sLen + m) sCap) (w.setRow g (cur.toList.take sLen ++ Bs (List.replicate m 0) ++ cur.toList.drop (sLen + m)).toArray) := by
  have hst := run_storeCells_at P g sLen e (Bs (List.replicate m 0)) 0 cur w hg (by simpa [Bs] using hfit) (Bs_one _)
  simp only [Nat.add_zero] at hst
  have h48i : ¬ (281474976710656 < (m : Int)) := by omega
  have hw : IntKind.i64.wrap (m : Int) = m := by rw [IntKind.wrap_i64]; omega
  have hneg : ¬ ((m : Int) < 0) := by omega
  have hns : ¬ (m = 0) := by omega
  have hzl := zeros_toList m
  have hlen : (Bs (List.replicate m 0)).length = m := by simp [Bs]
  simp [Builtin.append_, run_underlying ht, run_underlying htn, sizeOf, typeInfo, zeroValue, hi, hz, hsz, hby, asInt, asIntOf, hw, hneg, hns, h48i, hroom, hzl, Addr.add_lit, hst, hlen]

end

theorem run_app0 (w : World) (base : Nat) (ty : TypeId) (a : Option Addr) (n cap : Nat) (xs : List UInt8) (hd : Bd base w a n cap xs) (m : Nat) (h0 : 0 < m) (h63 : n + m ≤ 140737488355328) (hbase : base ≤ w.heap.size) :
    ∃ a' cap' w', (Builtin.append_ #[28, 3] ty #[.slice a n cap, .int .i64 m]).run Try.prog w = .ok (.slice a' (n + m) cap') w' ∧ Bo base w' a' (n + m) cap' (xs ++ List.replicate m 0) ∧
      Keeps (mine base a) w w' ∧ Near base w a a' := by
  obtain ⟨i, hi, hz, hs1, hs2⟩ := info_parts info8
  have hvw := hd.by.2
  have hnx := hd.1
  have hlen : (Bs (xs ++ List.replicate m 0)).length = (n + m) * 1 := by simp [Bs, hnx]
  have grown : cap < n + m → ∃ a' cap' w', (Builtin.append_ #[28, 3] ty #[.slice a n cap, .int .i64 m]).run Try.prog w = .ok (.slice a' (n + m) cap') w' ∧ Bo base w' a' (n + m) cap' (xs ++ List.replicate m 0) ∧
      Keeps (mine base a) w w' ∧ Near base w a a' := by
    intro hg
    have hold : (Builtin.firstCells i.size n (.slice a n cap)).run Try.prog w.drew = .ok (Bs xs).toArray w.drew := by
      rw [hs1]
      rcases hvw.at_ with h0 | ⟨b, off, rfl, hb, hc⟩
      · have e0 : n * 1 = 0 := by have := hvw.len; rw [h0] at this; simpa using this.symm
        rw [h0]
        cases a <;> simp [Builtin.firstCells, e0, loadCells, loadCellsFrom]
      · exact run_firstCells_some w.drew 1 n _ n cap (Bs xs) hvw.len (fun j u hj => by rw [add_plain]; simpa using hc j u hj)
    have hr := run_zeros_grow (P := Try.prog) w 28 3 ty 5 i .i64 Try.underlying28 Try.underlying3 hi hz hs1 hs2 a n cap (Bs xs) hold m h0 hg h63
    have hge := grownCap_ge w (n + m) cap 5
    have hcm : grownCap w (n + m) cap 5 ≤ maxLen := grownCap_le_maxLen w (n + m) cap 5 (by unfold maxLen; omega)
    have hown : (w.drew.alloc (.cells ((Bs xs ++ Bs (List.replicate m 0)).toArray ++ Builtin.zeroCells (Value.int .u8 0).cells (grownCap w (n + m) cap 5 - (n + m))) 5)).ownsRow base 5 1
        (.slice (some ⟨w.heap.size, 0, none⟩) (n + m) (grownCap w (n + m) cap 5)) (n + m) (Bs (xs ++ List.replicate m 0)) := by
      refine ⟨hlen, .inr ⟨w.heap.size, _, _, rfl, hbase, heap_alloc_new w.drew _, hge, hcm, ?_, ?_⟩⟩
      · rw [Bs_append]
        simp only [Array.size_append, List.size_toArray, size_zeroCells, hlen]
        simp [Value.cells]
        omega
      · rw [Bs_append]
        simp only [Array.toList_append]
        rw [← hlen]
        exact List.take_left
    refine ⟨_, _, _, hr, ⟨by simp [hnx], hown⟩, ⟨rfl, rfl, rfl, by simp, fun k hk _ => Below.heap_alloc w.drew _ k hk⟩, fun k hk => .inr ?_⟩
    simp at hk
    omega
  by_cases hroom : n + m ≤ cap
  · rcases hd.2 with hown | ⟨rfl, _⟩
    · rcases hown.2 with ⟨hv, h0'⟩ | ⟨g, cap', cur, hv, hbg, hg, hnc, hcm, hcs, htake⟩
      · cases hv; omega
      · cases hv
        have hfit : n + m ≤ cur.size := by rw [hcs]; omega
        have hr := run_zeros_room (P := Try.prog) w 28 3 ty 5 i .i64 Try.underlying28 Try.underlying3 hi hz hs1 hs2 g n cap cur hg m h0 h63 hroom hfit
        have htk : cur.toList.take n = Bs xs := by simpa using htake
        have hown' : (w.setRow g (cur.toList.take n ++ Bs (List.replicate m 0) ++ cur.toList.drop (n + m)).toArray).ownsRow base 5 1 (.slice (some ⟨g, 0, none⟩) (n + m) cap) (n + m) (Bs (xs ++ List.replicate m 0)) := by
          refine ⟨hlen, .inr ⟨g, cap, _, rfl, hbg, setRow_heap w g cur _ 5 _ hg, hroom, hcm, ?_, ?_⟩⟩
          · simp only [List.size_toArray, List.length_append, List.length_take, List.length_drop, Array.length_toList]
            have : (Bs (List.replicate m 0)).length = m := by simp [Bs]
            omega
          · rw [htk, Bs_append, ← hlen]
            exact List.take_left
        exact ⟨_, _, _, hr, ⟨by simp [hnx], hown'⟩, ⟨rfl, rfl, rfl, by simp, fun k _ hk => setRow_other w g k _ (fun e => hk (by subst e; exact ⟨hbg, rfl⟩))⟩, fun k _ => .inl rfl⟩
    · omega
  · exact grown (by omega)

/-- append(b, make([]byte, n)...) at the operation. -/
theorem wpList_app0 (w : World) {ops : Array Oper} {rest : List Oper} {o : Oper} {ac : Act} {Q : Exit → Act → World → Prop} (hg : o.guard = none) (s x : Operand)
    (hop : o.op = Op.call { callee := Callee.builtin Builtin.append, args := #[s, x], argTypes := #[28, 3] }) (base : Nat)
    (a : Option Addr) (n cap : Nat) (xs : List UInt8) (hs : ac.eval s = .slice a n cap) (hd : Bd base w a n cap xs) (m : Nat) (h0 : 0 < m) (hx : ac.eval x = .int .i64 m)
    (b1 : n + m ≤ 140737488355328) (hb : base ≤ w.heap.size)
    (hK : ∀ a' cap' w', Bo base w' a' (n + m) cap' (xs ++ List.replicate m 0) → Keeps (mine base a) w w' → Near base w a a' → wpList Try.prog ops Q rest (ac.put o.dst (.slice a' (n + m) cap')) w') : wpList Try.prog ops Q (o :: rest) ac w := by
  refine wpList_plain hg fun K hK' => ?_
  obtain ⟨a', cap', w', hrun, r1, r2, r3⟩ := run_app0 w base o.type a n cap xs hd m h0 b1 hb
  unfold Oper.wp
  simp [execOp, hop, resolve, invoke, builtin, hs, hx, hrun, Result.andThen]
  exact hK' _ _ (hK a' cap' w' r1 r2 r3)

end Go.Proofs.Ytcckdahpagkbaaa
