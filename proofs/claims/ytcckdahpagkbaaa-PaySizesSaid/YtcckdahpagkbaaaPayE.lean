/- Payloads made: what known() makes. -/
import Derived.Test.YtcckdahpagkbaaaPayD
import Derived.Test.YtcckdahpagkbaaaZer
import Derived.Deep.AppendSrc
import Derived.Deep.DeepCutAuto
namespace Go.Proofs.Ytcckdahpagkbaaa
open Go.RowKit Go.Deep

theorem Bo.one (w : World) (c : UInt8) (v : Value) (hv : v = B c) : Bo w.heap.size (w.alloc (.cells #[v] 5 (0, 0))) (some ⟨w.heap.size, 0, none⟩) 1 1 [c] := by
  subst hv
  exact ⟨rfl, rfl, .inr ⟨w.heap.size, 1, #[B c], rfl, Nat.le_refl _, heap_alloc_new w _, Nat.le_refl _, by unfold maxLen; omega, rfl, rfl⟩⟩

set_option maxHeartbeats 1600000 in
/-- Two bytes of padding. -/
theorem padding_two (a : Option Addr) (c : Nat) (x y : UInt8) (w : World) (hx : By w a 2 c [x, y]) :
    Calls Try.prog 23 #[.int .i64 2, .slice a 2 c] w fun e w' => ∃ a' c', e = .returned (.tuple #[.slice a' 5 c', .int .u8 8]) ∧ Bo w.heap.size w' a' 5 c' [2, x, y, 0, 0] ∧ Below w.heap.size w w' := by
  have HX := Lib.hid (By.alloc hx (.cells #[.int .u8 2] 5 (0, 0)))
  clear hx
  go_enter Try.func23, Try.ntmps23
  go_wp2_with (at_builtin; refine halt ?_)
  refine Halted.go (wpList_app8 _ rfl _ _ 28 rfl w.heap.size (some ⟨w.heap.size, 0, none⟩) 1 1 [2] rfl (Bo.one w 2 _ rfl).bd (.slice a 2 c) rfl [x, y] (HX.out.2.src Try.underlying28 (Bs_one _)) (by simp) (by simp) ?_)
  intro a6 c6 w6 hd6 hk6 hn6 hb6 _
  have ho6 := hb6 (by simp)
  have HO6 := Lib.hid ho6
  have hs6 : w.heap.size ≤ w6.heap.size := by have := hk6.size; simp at this; omega
  have HK6 := Lib.hid (Keeps.mine_below ((Below.refl w.heap.size w).alloc (Nat.le_refl _) _) hk6 (by simp) (Nat.le_refl _))
  clear hd6 hk6 hn6 hb6 ho6 HX
  go_wp2_with (at_builtin; refine halt ?_)
  refine Halted.go (wpList_app0 _ rfl _ _ rfl w.heap.size a6 3 c6 [2, x, y] rfl HO6.out.bd 2 (by omega) rfl (by omega) hs6 ?_)
  intro a7 c7 w7 ho7 hk7 hn7
  have HO7 := Lib.hid ho7
  have HK7 := Lib.hid (Keeps.mine_below HK6.out hk7 hs6 (Nat.le_refl _))
  clear ho7 hk7 hn7
  go_wp2_with fail
  go_returns
  exact ⟨_, _, rfl, HO7.out, HK7.out⟩

theorem fr_cells {w : World} {b : Nat} {v0 v1 v2 v3 : Value} {t : TypeId} (h : Blk w b #[v0, v1, v2, v3] t) :
    (w.cell? ⟨b, 0, none⟩ = some v0 ∧ w.cell? ⟨b, 1, none⟩ = some v1 ∧ w.cell? ⟨b, 2, none⟩ = some v2 ∧ w.cell? ⟨b, 3, none⟩ = some v3) ∧
    (w.frozen? ⟨b, 0, none⟩ = false ∧ w.frozen? ⟨b, 1, none⟩ = false ∧ w.frozen? ⟨b, 2, none⟩ = false ∧ w.frozen? ⟨b, 3, none⟩ = false) :=
  ⟨⟨h.cell 0, h.cell 1, h.cell 2, h.cell 3⟩, h.free 0, h.free 1, h.free 2, h.free 3⟩
theorem fr_set {w : World} {b : Nat} {v0 v1 v2 v3 : Value} {t : TypeId} (h : Blk w b #[v0, v1, v2, v3] t) (x0 x1 x2 x3 : Value) :
    Blk ((((w.setCell ⟨b, 0, none⟩ x0).setCell ⟨b, 1, none⟩ x1).setCell ⟨b, 2, none⟩ x2).setCell ⟨b, 3, none⟩ x3) b #[x0, x1, x2, x3] t :=
  ((((h.set 0 x0).set 1 x1).set 2 x2).set 3 x3).as rfl
theorem fr_keep (w : World) (b : Nat) (x0 x1 x2 x3 : Value) :
    Keeps (fun k => k = b) w ((((w.setCell ⟨b, 0, none⟩ x0).setCell ⟨b, 1, none⟩ x1).setCell ⟨b, 2, none⟩ x2).setCell ⟨b, 3, none⟩ x3) :=
  ((((Keeps.refl _ w).put 0 x0).put 1 x1).put 2 x2).put 3 x3

set_option maxHeartbeats 1600000 in
/-- A frame of data with two bytes of padding, the stream's last. -/
theorem data_two (st : Int) (a : Option Addr) (c : Nat) (x y : UInt8) (w : World) (hx : By w a 2 c [x, y]) :
    Calls Try.prog 12 #[.int .u32 st, .bool true, .int .i64 2, .slice a 2 c] w fun e w' => ∃ a' c', e = .returned (FrV 0 9 st a' 5 c') ∧ By w' a' 5 c' [2, x, y, 0, 0] ∧ Below w.heap.size w w' := by
  have hb0 := (Blk.new w #[.int .u8 0, .int .u8 0, .int .u32 0, .slice none 0 0] 30).alloc (.cells #[.int .u8 0, .int .u8 0, .int .u32 st, .slice none 0 0] 30 (0, 0))
  have hb1 := Blk.new (w.alloc (.cells #[.int .u8 0, .int .u8 0, .int .u32 0, .slice none 0 0] 30 (0, 0))) #[.int .u8 0, .int .u8 0, .int .u32 st, .slice none 0 0] 30
  rw [World.size_alloc] at hb1
  have hs0 : ((w.alloc (.cells #[.int .u8 0, .int .u8 0, .int .u32 0, .slice none 0 0] 30 (0, 0))).alloc (.cells #[.int .u8 0, .int .u8 0, .int .u32 st, .slice none 0 0] 30 (0, 0))).heap.size = w.heap.size + 2 := by simp
  have hk0 := ((Below.refl w.heap.size w).alloc (Nat.le_refl _) (.cells #[.int .u8 0, .int .u8 0, .int .u32 0, .slice none 0 0] 30 (0, 0))).alloc (by simp) (.cells #[.int .u8 0, .int .u8 0, .int .u32 st, .slice none 0 0] 30 (0, 0))
  have HB0 := Lib.hid hb0
  have HB1 := Lib.hid hb1
  have HS0 := Lib.hid hs0
  have HK0 := Lib.hid hk0
  have HX := Lib.hid ((hx.alloc (.cells #[.int .u8 0, .int .u8 0, .int .u32 0, .slice none 0 0] 30 (0, 0))).alloc (.cells #[.int .u8 0, .int .u8 0, .int .u32 st, .slice none 0 0] 30 (0, 0)))
  clear hb0 hb1 hs0 hk0 hx
  go_enter Try.func12, Try.ntmps12
  go_wp2_with fail
  refine (padding_two a c x y _ HX.out).mono ?_
  rintro e w1 ⟨a1, c1, rfl, ho1, hk1⟩
  have HR1 := Lib.hid ((Below.keeps hk1).blk HB0.out (by rw [HS0.out]; omega))
  have HF1 := Lib.hid ((Below.keeps hk1).blk HB1.out (by rw [HS0.out]; omega))
  rw [HS0.out] at ho1
  have HO1 := Lib.hid ho1
  have HK1 := Lib.hid (HK0.out.trans (hk1.mono HK0.out.size))
  clear ho1 hk1 HB0 HB1 HX HK0
  obtain ⟨⟨p0, p1, p2, p3⟩, z0, z1, z2, z3⟩ := fr_cells HF1.out
  go_upto_region 5 with fail
  have hkk : Keeps (fun k => k = w.heap.size + 1) w1 (((w1.setCell ⟨w.heap.size + 1, 3, none⟩ (.slice a1 5 c1)).setCell ⟨w.heap.size + 1, 1, none⟩ (.int .u8 8)).setCell ⟨w.heap.size + 1, 1, none⟩ (.int .u8 9)) := (((Keeps.refl _ w1).put 3 _).put 1 _).put 1 _
  have hf2 : Blk (((w1.setCell ⟨w.heap.size + 1, 3, none⟩ (.slice a1 5 c1)).setCell ⟨w.heap.size + 1, 1, none⟩ (.int .u8 8)).setCell ⟨w.heap.size + 1, 1, none⟩ (.int .u8 9)) (w.heap.size + 1) #[.int .u8 0, .int .u8 9, .int .u32 st, .slice a1 5 c1] 30 := (((HF1.out.set 3 _).set 1 _).set 1 _).as rfl
  have hr2 := hkk.blk HR1.out (by omega)
  have ho2 := HO1.out.keep hkk (fun b hb e => by have := (HO1.out.ge b hb).1; omega)
  have hk2 := Keeps.below HK1.out hkk HK1.out.size (fun k hk => by omega)
  have HR2 := Lib.hid hr2
  have HO2 := Lib.hid ho2
  have HK2 := Lib.hid hk2
  have HF2 := Lib.hid hf2
  clear hkk hf2 hr2 ho2 hk2 p0 p1 p2 p3 z0 z1 z2 z3
  rw [show bits BinOp.or IntKind.u8 8 1 = 9 by decide +kernel]
  generalize ((w1.setCell ⟨w.heap.size + 1, 3, none⟩ (.slice a1 5 c1)).setCell ⟨w.heap.size + 1, 1, none⟩ (.int .u8 8)).setCell ⟨w.heap.size + 1, 1, none⟩ (.int .u8 9) = w2 at *
  obtain ⟨⟨f0, f1, f2, f3⟩, _⟩ := fr_cells HF2.out
  obtain ⟨⟨p0, p1, p2, p3⟩, z0, z1, z2, z3⟩ := fr_cells HR2.out
  have HBF := Lib.hid (fr_set HR2.out (.int .u8 0) (.int .u8 9) (.int .u32 st) (.slice a1 5 c1))
  have HKF := Lib.hid (Keeps.below HK2.out (fr_keep w2 w.heap.size (.int .u8 0) (.int .u8 9) (.int .u32 st) (.slice a1 5 c1)) HK2.out.size (fun k hk => by omega))
  have HYF := Lib.hid (HO2.out.by.keep (fr_keep w2 w.heap.size (.int .u8 0) (.int .u8 9) (.int .u32 st) (.slice a1 5 c1)) (fun b hb e => by have := (HO2.out.ge b hb).1; omega))
  go_wp2_with fail
  clear f0 f1 f2 f3 p0 p1 p2 p3 z0 z1 z2 z3
  obtain ⟨⟨s0, s1, s2, s3⟩, _⟩ := fr_cells HBF.out
  (try simp only [Exit.inBlock, Exit.then])
  refine bodyPost_ret (by simp [results, Try.results12, go_sem, s0, s1, s2, s3]; try rfl) rfl ?_
  exact ⟨_, _, rfl, HYF.out, HKF.out⟩

end Go.Proofs.Ytcckdahpagkbaaa
