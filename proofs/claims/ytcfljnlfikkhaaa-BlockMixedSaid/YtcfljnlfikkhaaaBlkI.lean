/- The chapter's example: known. -/
import Derived.Test.YtcfljnlfikkhaaaBlkH
import Derived.Test.YtcfljnlfikkhaaaMake8
import Derived.Lib.SlBytesConst
namespace Go.Proofs.Ytcfljnlfikkhaaa
open Go.RowKit Go.Deep

theorem conv_three (w : World) (x y z : Value) (g : Nat) (hg : g = w.heap.size) : (convert 29 29 (.slice (some ⟨g, 0, none⟩) 3 3)).run Try.prog (w.alloc (.cells #[x, y, z] 5 (0, 0))) = .ok (.slice (some ⟨g, 0, none⟩) 3 3) (w.alloc (.cells #[x, y, z] 5 (3, 4))) := by
  subst hg
  exact Lib.run_convert_bytes_const w 29 5 #[x, y, z] 3 3 Try.underlying29 Try.underlying5
theorem upon_conv {P : Program} {o : Oper} {a : Act} {K : Act → World → Prop} {Q : Exit → Act → World → Prop} {src dst : TypeId} {v u : Value} {w w' : World} (h : (convert src dst v).run P w = .ok u w') (hk : K (a.put o.dst u) w') :
    o.upon P a K Q (((convert src dst v).run P w).andThen fun a w' => .ok (.value a) w') := by rw [h]; exact hk
theorem By.mark (w : World) (xs : List UInt8) (vs : Array Value) (t : TypeId) (fr : Nat × Nat) (h : xs.length ≤ 1000) (hv : vs = (Bs xs).toArray) : By (w.alloc (.cells vs t fr)) (some ⟨w.heap.size, 0, none⟩) xs.length xs.length xs := by
  subst hv
  refine ⟨rfl, Nat.le_refl _, by unfold maxLen; omega, by simp [Bs], .inr ⟨w.heap.size, 0, rfl, by simp, fun j u hj => ?_⟩⟩
  rw [Nat.zero_add, World.cell?_alloc_mark]
  simpa using hj

theorem two_of {α : Type} (l : List α) (h : l.length = 2) : ∃ f g, l = [f, g] := by
  match l, h with
  | [f, g], _ => exact ⟨f, g, rfl⟩

def kb0 : Bk := bk0 100
def kb1 : Bk := kb0.add 1 1 3 [97, 98]
def kb2 : Bk := kb1.add 6 0 0 (List.replicate 8 0)
def kb3 : Bk := kb2.add 9 4 3 [99]
theorem kb_facts : kb0.done 1 1 3 [97, 98] = false ∧ kb0.rule 1 1 3 [97, 98] = 0 ∧ kb1.done 6 0 0 (List.replicate 8 0) = false ∧ kb1.rule 6 0 0 (List.replicate 8 0) = 6 ∧ kb2.done 9 4 3 [99] = true ∧ kb2.rule 9 4 3 [99] = 0 ∧ kb3.whl = true ∧ kb3.st = 3 ∧ kb3.xs = [97, 98, 99] ∧ kb3.fin = true ∧ kb3.took.opn = false := by decide +kernel
theorem kb_ok : kb0.Ok ∧ kb1.Ok ∧ kb2.Ok ∧ kb3.Ok := by
  have h0 : kb0.Ok := bk0_ok (by omega) (by omega)
  have h1 : kb1.Ok := Bk.add_ok h0 _ _ _ _ (by omega) (by omega)
  have h2 : kb2.Ok := Bk.add_ok h1 _ _ _ _ (by omega) (by omega)
  exact ⟨h0, h1, h2, Bk.add_ok h2 _ _ _ _ (by omega) (by omega)⟩

set_option maxRecDepth 100000 in
set_option maxHeartbeats 3200000 in
theorem known_any (w : World) : Calls Try.prog 6 #[] w fun e w' => e = .returned (.bool true) ∧ Below w.heap.size w w' := by
  go_enter Try.func6, Try.ntmps6
  go_wp2_with fail
  refine (new_any 100 w (by omega) (by omega)).mono ?_
  rintro e w1 ⟨rfl, hw1⟩
  have HP1 : Hid (PkM (w.heap.size + 1) w1 w.heap.size kb0) := Lib.hid (by rw [hw1]; exact PkM.new w 100 _ rfl)
  have HK1 : Hid (Below w.heap.size w w1) := Lib.hid (by rw [hw1]; exact (Below.refl w.heap.size w).alloc (Nat.le_refl _) _)
  have hs1 : w1.heap.size = w.heap.size + 1 := by rw [hw1]; simp
  have HS1 := Lib.hid hs1
  clear hw1 hs1
  go_wp2_with fail
  refine upon_conv (conv_three w1 _ _ _ _ rfl) ?_
  go_wp2_with fail
  refine calls_named ?_
  intro w2 hw2
  have HY2 : Hid (By w2 (some ⟨w1.heap.size, 0, none⟩) 3 3 [97, 98, 99]) := Lib.hid (by rw [← hw2]; exact By.mark w1 [97, 98, 99] _ 5 (3, 4) (by simp) rfl)
  have HP2 : Hid (PkM (w.heap.size + 1) w2 w.heap.size kb0) := Lib.hid (by rw [← hw2]; exact HP1.out.keep ((Keeps.refl (fun _ => False) w1).alloc _) (fun _ h => False.elim h) (fun h => h))
  have HK2 : Hid (Below w.heap.size w w2) := Lib.hid (by rw [← hw2]; exact HK1.out.alloc HK1.out.size _)
  have hs2 : w2.heap.size = w.heap.size + 2 := by rw [← hw2, World.size_alloc, HS1.out]
  have HS2 := Lib.hid hs2
  clear hw2 hs2
  refine (split_any 3 true 2 _ 3 3 [97, 98, 99] w2 HY2.out (by omega) (by omega) (by omega)).mono ?_
  rintro e w3 ⟨a3, c3, l3, rfl, hq3, hsp3, hl3, hm3, hn3, hk3⟩
  obtain ⟨f0, f1, rfl⟩ := two_of l3 (by simp at hm3 hn3; omega)
  obtain ⟨d00, d01, d02, d03⟩ := hsp3 0 (by simp)
  obtain ⟨d10, d11, d12, d13⟩ := hsp3 1 (by simp)
  obtain ⟨t0, l0, g0, fa0, fn0, fc0, x0⟩ := f0
  obtain ⟨t1, l1, g1, fa1, fn1, fc1, x1⟩ := f1
  simp only [List.getElem_cons_zero, List.getElem_cons_succ] at d00 d01 d02 d03 d10 d11 d12 d13
  obtain rfl : t0 = 1 := d00
  obtain rfl : l0 = 1 := d01
  obtain rfl : g0 = 3 := d02
  obtain rfl : x0 = [97, 98] := d03
  obtain rfl : t1 = 9 := d10
  obtain rfl : l1 = 4 := d11
  obtain rfl : g1 = 3 := d12
  obtain rfl : x1 = [99] := d13
  clear hsp3 hl3 hm3 hn3
  have HQ3 := Lib.hid hq3
  have HP3 := Lib.hid (HP2.out.keep (below_no hk3) (fun _ h => False.elim h) (fun h => h))
  have HK3 := Lib.hid (HK2.out.trans (hk3.mono HK2.out.size))
  have HS3 : Hid (w2.heap.size ≤ w3.heap.size) := hk3.size
  clear hq3 hk3
  obtain ⟨bb, oo, ha3, hbb, ⟨c0, c1, c2, c3⟩, hy⟩ := HQ3.out.get 0 (by simp)
  subst ha3
  have HY := Lib.hid hy
  clear hy
  simp only [List.getElem_cons_zero, Nat.zero_mul, Nat.add_zero] at c0 c1 c2 c3 HY
  obtain rfl : fn0 = 2 := HY.out.1
  go_wp2_with fail
  refine (add_any (w.heap.size + 1) w.heap.size kb0 1 1 3 fa0 2 fc0 [97, 98] w3 HP3.out kb_ok.1 HY.out (by omega)).mono ?_
  rintro e w4 ⟨rfl, hp4, hk4⟩
  rw [kb_facts.1, kb_facts.2.1]
  have HP4 : Hid (PkM (w.heap.size + 1) w4 w.heap.size kb1) := Lib.hid hp4
  have HQ4 := Lib.hid (HQ3.out.keep hk4 (fun b h => by have := HS2.out; omega))
  have HK4 : Hid (Below w.heap.size w w4) := Lib.hid (Keeps.below HK3.out hk4 HK3.out.size (fun k h => by omega))
  have HS4 : Hid (w3.heap.size ≤ w4.heap.size) := hk4.size
  clear hp4 hk4 c0 c1 c2 c3 HY HP3
  go_wp2_with (refine wpList_make8 _ rfl _ _ rfl 8 rfl rfl (by omega) ?_; intro w5 ho5 hk5; refine halt ?_)
  have HO5 := Lib.hid ho5
  have HP5 := Lib.hid (HP4.out.keep (below_no hk5) (fun _ h => False.elim h) (fun h => h))
  have HQ5 := Lib.hid (HQ4.out.keep (below_no hk5) (fun _ h => False.elim h))
  have HK5 := Lib.hid (HK4.out.trans (hk5.mono HK4.out.size))
  have HS5 : Hid (w4.heap.size ≤ w5.heap.size) := hk5.size
  clear ho5 hk5
  refine Halted.go ?_
  go_wp2_with fail
  refine (add_any (w.heap.size + 1) w.heap.size kb1 6 0 0 _ 8 8 (List.replicate 8 0) w5 HP5.out kb_ok.2.1 HO5.out.by (by omega)).mono ?_
  rintro e w6 ⟨rfl, hp6, hk6⟩
  rw [kb_facts.2.2.1, kb_facts.2.2.2.1]
  have HP6 : Hid (PkM (w.heap.size + 1) w6 w.heap.size kb2) := Lib.hid hp6
  have HQ6 := Lib.hid (HQ5.out.keep hk6 (fun b h => by have := HS2.out; omega))
  have HK6 : Hid (Below w.heap.size w w6) := Lib.hid (Keeps.below HK5.out hk6 HK5.out.size (fun k h => by omega))
  clear hp6 hk6 HP4 HQ4 HP5 HQ5 HO5
  obtain ⟨bb', oo', ha3, hbb', ⟨c0, c1, c2, c3⟩, hy⟩ := HQ6.out.get 1 (by simp)
  obtain ⟨rfl, rfl⟩ : bb = bb' ∧ oo = oo' := by simpa using ha3
  have HY := Lib.hid hy
  clear hy ha3
  simp only [List.getElem_cons_succ, List.getElem_cons_zero, Nat.one_mul, Nat.add_assoc] at c0 c1 c2 c3 HY
  obtain rfl : fn1 = 1 := HY.out.1
  go_wp2_with fail
  refine (add_any (w.heap.size + 1) w.heap.size kb2 9 4 3 fa1 1 fc1 [99] w6 HP6.out kb_ok.2.2.1 HY.out (by omega)).mono ?_
  rintro e w7 ⟨rfl, hp7, hk7⟩
  rw [kb_facts.2.2.2.2.1, kb_facts.2.2.2.2.2.1]
  have HP7 : Hid (PkM (w.heap.size + 1) w7 w.heap.size kb3) := Lib.hid hp7
  have HK7 : Hid (Below w.heap.size w w7) := Lib.hid (Keeps.below HK6.out hk7 HK6.out.size (fun k h => by omega))
  clear hp7 hk7 c0 c1 c2 c3 HY HP6 HQ6 HQ3 hbb'
  go_wp2_with fail
  refine (take_any (w.heap.size + 1) w.heap.size kb3 w7 HP7.out kb_ok.2.2.2).mono ?_
  rintro e w8 ⟨ht8, hp8, hk8⟩
  unfold TkP at ht8
  rw [if_pos kb_facts.2.2.2.2.2.2.1, kb_facts.2.2.2.2.2.2.2.1, kb_facts.2.2.2.2.2.2.2.2.1, kb_facts.2.2.2.2.2.2.2.2.2.1] at ht8
  obtain ⟨a8, n8, c8, rfl, hy8, _⟩ := ht8
  have HY8 := Lib.hid hy8
  have HP8 := Lib.hid hp8
  have HK8 : Hid (Below w.heap.size w w8) := Lib.hid (Keeps.below HK7.out hk8 HK7.out.size (fun k h => by omega))
  clear hy8 hp8 hk8
  go_wp2_with fail
  refine By.upon HY8.out ?_
  go_wp2_with fail
  refine (open_any (w.heap.size + 1) w.heap.size kb3.took w8 HP8.out).mono ?_
  rintro e w' ⟨rfl, rfl⟩
  rw [kb_facts.2.2.2.2.2.2.2.2.2.2]
  go_wp2_with fail
  go_returns
  exact ⟨rfl, HK8.out⟩

end Go.Proofs.Ytcfljnlfikkhaaa
