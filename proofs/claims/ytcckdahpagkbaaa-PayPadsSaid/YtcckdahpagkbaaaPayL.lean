/- Appending any number of made zeros, none too. -/
import Derived.Test.YtcckdahpagkbaaaPayK
import Derived.Test.YtcckdahpagkbaaaZer
namespace Go.Proofs.Ytcckdahpagkbaaa
open Go.RowKit Go.Deep

theorem run_app0z (w : World) (ty : TypeId) (a : Option Addr) (n cap : Nat) (h : n ≤ cap) :
    (Builtin.append_ #[28, 3] ty #[.slice a n cap, .int .i64 0]).run Try.prog w = .ok (.slice a n cap) w := by
  obtain ⟨i, hi, hz, hs1, hs2⟩ := info_parts info8
  have hw : IntKind.i64.wrap (0 : Int) = 0 := rfl
  cases a <;> simp [Builtin.append_, run_underlying Try.underlying28, run_underlying Try.underlying3, sizeOf, typeInfo, zeroValue, hi, hz, hs1, hs2, asInt, asIntOf, hw, h, storeCells]

theorem wpList_app00 (w : World) {ops : Array Oper} {rest : List Oper} {o : Oper} {ac : Act} {Q : Exit → Act → World → Prop} (hg : o.guard = none) (s x : Operand)
    (hop : o.op = Op.call { callee := Callee.builtin Builtin.append, args := #[s, x], argTypes := #[28, 3] }) (base : Nat)
    (a : Option Addr) (n cap : Nat) (xs : List UInt8) (hs : ac.eval s = .slice a n cap) (hd : Bo base w a n cap xs) (m : Nat) (hx : ac.eval x = .int .i64 m)
    (b1 : n + m ≤ 140737488355328) (hb : base ≤ w.heap.size)
    (hK : ∀ a' cap' w', Bo base w' a' (n + m) cap' (xs ++ List.replicate m 0) → Keeps (mine base a) w w' → Near base w a a' → wpList Try.prog ops Q rest (ac.put o.dst (.slice a' (n + m) cap')) w') : wpList Try.prog ops Q (o :: rest) ac w := by
  by_cases h0 : 0 < m
  · exact wpList_app0 w hg s x hop base a n cap xs hs hd.bd m h0 hx b1 hb hK
  · obtain rfl : m = 0 := by omega
    refine wpList_plain hg fun K hK' => ?_
    have hrun := run_app0z w o.type a n cap hd.by.2.le
    unfold Oper.wp
    simp [execOp, hop, resolve, invoke, builtin, hs, hx, hrun, Result.andThen]
    exact hK' _ _ (hK a cap w (by simpa using hd) (Keeps.refl _ w) (fun k hk => .inl rfl))

end Go.Proofs.Ytcckdahpagkbaaa
