/- The chapter's example: known. -/
import Derived.Test.YtffffgpahdkngaaNumE
namespace Go.Proofs.Ytffffgpahdkngaa
open Go.RowKit Go.Deep

/-- A slice of what has just been made. -/
theorem Vw.new (w : World) (cs : List Value) (t : TypeId) (h : cs.length ≤ maxLen) : Vw (w.alloc (.cells cs.toArray t (0, 0))) (some ⟨w.heap.size, 0, none⟩) cs.length cs.length 1 cs := by
  refine ⟨Nat.le_refl _, h, by simp, .inr ⟨w.heap.size, 0, rfl, by simp, fun j u hj => ?_⟩⟩
  have hb := Blk.new w cs.toArray t
  rw [Nat.zero_add, hb.cell j]
  simp [hj]
theorem Uv.one (w : World) (t : TypeId) (v : Int) (h0 : 0 ≤ v) (h1 : v ≤ 18446744073709551615) : Uv (w.alloc (.cells #[.int .u64 v] t (0, 0))) (some ⟨w.heap.size, 0, none⟩) 1 1 [v] :=
  ⟨rfl, Vw.new w [.int .u64 v] t (by unfold maxLen; simp), fun x hx => by simp at hx; subst hx; exact ⟨h0, h1⟩⟩
theorem By.new (w : World) (xs : List UInt8) (vs : Array Value) (t : TypeId) (h : xs.length ≤ 1000) (hv : vs = (Bs xs).toArray) : By (w.alloc (.cells vs t (0, 0))) (some ⟨w.heap.size, 0, none⟩) xs.length xs.length xs := by
  subst hv
  have := Vw.new w (Bs xs) t (by unfold maxLen; simp [Bs]; omega)
  rw [show (Bs xs).length = xs.length by simp [Bs]] at this
  exact ⟨rfl, this⟩

theorem upon_str {P : Program} {o : Oper} {a : Act} {K : Act → World → Prop} {Q : Exit → Act → World → Prop} {src dst : TypeId} {v : Value} {s : ByteArray} {w : World} (h : (convert src dst v).run P w = .ok (.string s) w) (hk : K (a.put o.dst (.string s)) w) :
    o.upon P a K Q (((convert src dst v).run P w).andThen fun a w' => .ok (.value a) w') := by rw [h]; exact hk
theorem By.upon {w : World} {a : Option Addr} {n cap : Nat} {xs : List UInt8} (h : By w a n cap xs) {o : Oper} {ac : Act} {K : Act → World → Prop} {Q : Exit → Act → World → Prop} (hk : K (ac.put o.dst (.string ⟨xs.toArray⟩)) w) :
    o.upon Try.prog ac K Q (((convert 22 9 (.slice a n cap)).run Try.prog w).andThen fun a w' => .ok (.value a) w') :=
  upon_str (h.str _ 5 _ Try.underlying22 Try.underlying5 Try.underlying9) hk

theorem Below.fresh {w w1 : World} (o : Obj) (h : Below (w.alloc o).heap.size (w.alloc o) w1) : Below w.heap.size w w1 := (Below.alloc (Below.refl _ _) (Nat.le_refl _) o).trans (h.mono (by simp))
theorem Bo.lt {base : Nat} {w : World} {a : Option Addr} {n cap : Nat} {xs : List UInt8} (h : Bo base w a n cap xs) : ∀ b, a.map (·.block) = some b → b < w.heap.size := fun b hb => (h.ge b hb).2

theorem ex1 : varsR [] [37] = [37] := by decide +kernel
theorem ex2 : varsErr [37] = 0 := by decide +kernel
theorem ex3 : varsErr [4611686018427387904] = 21 := by decide +kernel
theorem ex4 : preE 0 5 1337 = [31, 154, 10] := by decide +kernel
theorem ex5 : rpR [31, 154, 10] 5 = (1337, 3, 0) := by decide +kernel
theorem ex6 : rbV [1, 2] 2 = 258 := by decide +kernel
theorem ex7 : rbOK 2 2 = true := by decide +kernel

set_option maxHeartbeats 400000 in
theorem known_any (w : World) : Calls Try.prog 9 #[] w fun e w' => e = .returned (.bool true) ∧ Below w.heap.size w w' := by
  go_enter Try.func9, Try.ntmps9
  go_wp2_with fail
  refine (var_any none 0 0 [] _ 1 1 [37] _ (By.nil _) (Uv.one w _ 37 (by omega) (by omega)) (by omega) (by omega)).mono ?_
  rintro e w1 ⟨a1, n1, c1, rfl, ho1, hk1⟩
  rw [ex1] at ho1
  have HO1 := Lib.hid ho1
  have HK1 := Lib.hid (Below.fresh _ hk1)
  clear ho1 hk1
  rw [ex2]
  go_wp2_with fail
  refine (var_any none 0 0 [] _ 1 1 [4611686018427387904] _ (By.nil _) (Uv.one w1 _ 4611686018427387904 (by omega) (by omega)) (by omega) (by omega)).mono ?_
  rintro e w2 ⟨a2, n2, c2, rfl, ho2, hk2⟩
  have HK2 := Lib.hid (Below.fresh _ hk2)
  clear ho2 hk2
  rw [ex3]
  go_wp2_with fail
  refine (prefix_any none 0 0 [] 0 5 1337 w2 (By.nil _) (by omega) (by omega) (by omega) (by omega) (by omega)).mono ?_
  rintro e w3 ⟨a3, n3, c3, rfl, ho3, hk3⟩
  rw [ex4, List.nil_append] at ho3
  have HO3 := Lib.hid ho3
  have HK3 := Lib.hid hk3
  clear ho3 hk3
  go_wp2_with fail
  refine (readprefix_any a3 n3 c3 _ 5 w3 HO3.out.by).mono ?_
  rintro e w' ⟨rfl, rfl⟩
  rw [ex5]
  go_wp2_with fail
  refine (readbig_any _ 2 2 [1, 2] 2 _ (By.new w3 [1, 2] _ _ (by simp) rfl)).mono ?_
  rintro e w' ⟨rfl, rfl⟩
  rw [ex6, ex7]
  go_wp2_with fail
  have h12 := HK2.out.size
  have h23 := HK3.out.size
  have h01 := HK1.out.size
  refine By.upon (xs := [37]) ?_ ?_
  · refine HO1.out.by.below (B := w1.heap.size) ?_ HO1.out.lt
    exact (HK2.out.trans (HK3.out.mono h12)).alloc (Nat.le_trans h12 h23) _
  go_wp2_with fail
  refine By.upon (xs := [31, 154, 10]) ?_ ?_
  · exact HO3.out.by.below (B := w3.heap.size) ((Below.refl _ _).alloc (Nat.le_refl _) _) HO3.out.lt
  go_wp2_with fail
  go_returns
  refine ⟨rfl, ?_⟩
  exact ((HK1.out.trans (HK2.out.mono h01)).trans (HK3.out.mono (Nat.le_trans h01 h12))).alloc (Nat.le_trans h01 (Nat.le_trans h12 h23)) _

end Go.Proofs.Ytffffgpahdkngaa
