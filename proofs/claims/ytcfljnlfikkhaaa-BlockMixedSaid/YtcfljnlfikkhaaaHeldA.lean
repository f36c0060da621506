/- append on a row of bytes of one's own: in a region of open order, and outside. -/
import Derived.Test.YtcfljnlfikkhaaaHeldB
import Derived.Test.YtcfljnlfikkhaaaNumF
namespace Go.Proofs.Ytcfljnlfikkhaaa
open Go.RowKit Go.Deep

theorem B_nat (n : Nat) (h : n < 256) : Value.int .u8 (n : Int) = B (byt (n : Int)) := by
  unfold B; rw [byt_val]; congr 1; omega

theorem own_app {base : Nat} {w : World} {a : Option Addr} {n cap : Nat} {xs ys : List UInt8} (ho : Bo base w a n cap xs) {a2 : Option Addr} {c2 m : Nat} {w2 : World} (hm : m = ys.length)
    (h1 : 0 < m → w2.ownsRow base 5 1 (.slice a2 (n + m) c2) (n + m) (Bs xs ++ Bs ys)) (h2 : m = 0 → c2 = cap ∧ a2 = a ∧ w2 = w) : Bo base w2 a2 (n + m) c2 (xs ++ ys) := by
  by_cases h0 : m = 0
  · obtain ⟨rfl, rfl, rfl⟩ := h2 h0
    obtain rfl : ys = [] := List.eq_nil_of_length_eq_zero (by omega)
    subst h0
    simpa using ho
  · refine ⟨by rw [List.length_append, ← ho.1, hm], ?_⟩
    have h := h1 (by omega)
    rwa [Bs_append] at h

section
variable {ops : Array Oper} {Q : Exit → Act → World → Prop} {md : Region.Mode} {S : World → Prop}

theorem held_own {i : Nat} {o : Oper} {fuel : Nat} {listed : Array Bool} {ac : Act} {w : World} (ho : ops[i]? = some o) (hr : Region.ready md ops listed = [i]) (hw : Region.wanted o (yielded ops ac.tmps) = true)
    (s x : Operand) (hop : o.op = Op.call { callee := Callee.builtin Builtin.append, args := #[s, x], argTypes := #[29, 29] }) (base : Nat)
    (a : Option Addr) (n cap : Nat) (xs : List UInt8) (hs : ac.eval s = .slice a n cap) (hd : Bo base w a n cap xs) (a1 : Option Addr) (m c1 : Nat) (ys : List UInt8) (hx : ac.eval x = .slice a1 m c1) (hy : By w a1 m c1 ys)
    (b1 : n + m ≤ 140737488355328) (hb : base ≤ w.heap.size)
    (hK : ∀ a' cap' w', Bo base w' a' (n + m) cap' (xs ++ ys) → Keeps (mine base a) w w' →
        S w' ∧ wpAnyH Try.prog md ops Q S fuel (listed.setIfInBounds i true) (ac.put o.dst (.slice a' (n + m) cap')) w') : wpAnyH Try.prog md ops Q S (fuel + 1) listed ac w := by
  obtain ⟨inf, hi, hz, hs1, hs2⟩ := info_parts info8
  have hm : m = ys.length := hy.1
  refine held_app ho hr hw s x 29 29 hop base 5 inf _ 1 1 Try.underlying29 hi hz hs1 hs2 rfl a n cap (Bs xs) hs (.inl hd.2) (.slice a1 m c1) hx m (Bs ys) (hy.2.src Try.underlying29 (Bs_one ys)) (by simp only [maxLen]; omega) (by omega) hb ?_
  intro a' cap' w' _ hk _ h1 h2
  exact hK a' cap' w' (own_app hd hm h1 h2) hk
end

/-- append outside of such a region. -/
theorem wpList_own (w : World) {ops : Array Oper} {rest : List Oper} {o : Oper} {ac : Act} {Q : Exit → Act → World → Prop} (hg : o.guard = none) (s x : Operand)
    (hop : o.op = Op.call { callee := Callee.builtin Builtin.append, args := #[s, x], argTypes := #[29, 29] }) (base : Nat)
    (a : Option Addr) (n cap : Nat) (xs : List UInt8) (hs : ac.eval s = .slice a n cap) (hd : Bo base w a n cap xs) (a1 : Option Addr) (m c1 : Nat) (ys : List UInt8) (hx : ac.eval x = .slice a1 m c1) (hy : By w a1 m c1 ys)
    (b1 : n + m ≤ 140737488355328) (hb : base ≤ w.heap.size)
    (hK : ∀ a' cap' w', Bo base w' a' (n + m) cap' (xs ++ ys) → Keeps (mine base a) w w' → wpList Try.prog ops Q rest (ac.put o.dst (.slice a' (n + m) cap')) w') : wpList Try.prog ops Q (o :: rest) ac w := by
  obtain ⟨inf, hi, hz, hs1, hs2⟩ := info_parts info8
  have hm : m = ys.length := hy.1
  refine wpList_app w hg s x 29 29 hop base 5 inf _ 1 1 Try.underlying29 hi hz hs1 hs2 rfl a n cap (Bs xs) hs (.inl hd.2) (.slice a1 m c1) hx m (Bs ys) (hy.2.src Try.underlying29 (Bs_one ys)) (by simp only [maxLen]; omega) (by omega) hb ?_
  intro a' cap' w' _ hk _ h1 h2
  exact hK a' cap' w' (own_app hd hm h1 h2) hk

theorem mine_none {base b : Nat} : ¬ mine base none b := fun h => by cases h.2
theorem mine_ge {base b : Nat} {a : Option Addr} (h : b < base) : ¬ mine base a b := fun k => by have := k.1; omega

end Go.Proofs.Ytcfljnlfikkhaaa
