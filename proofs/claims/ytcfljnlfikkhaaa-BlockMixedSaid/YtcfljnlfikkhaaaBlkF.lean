/- Frames made without padding. -/
import Derived.Test.YtcfljnlfikkhaaaBlkD
import Derived.Deep.DeepCutAuto
namespace Go.Proofs.Ytcfljnlfikkhaaa
open Go.RowKit Go.Deep

theorem fr_cells {w : World} {b : Nat} {v0 v1 v2 v3 : Value} {t : TypeId} (h : Blk w b #[v0, v1, v2, v3] t) :
    (w.cell? ⟨b, 0, none⟩ = some v0 ∧ w.cell? ⟨b, 1, none⟩ = some v1 ∧ w.cell? ⟨b, 2, none⟩ = some v2 ∧ w.cell? ⟨b, 3, none⟩ = some v3) ∧
    (w.frozen? ⟨b, 0, none⟩ = false ∧ w.frozen? ⟨b, 1, none⟩ = false ∧ w.frozen? ⟨b, 2, none⟩ = false ∧ w.frozen? ⟨b, 3, none⟩ = false) :=
  ⟨⟨h.cell 0, h.cell 1, h.cell 2, h.cell 3⟩, h.free 0, h.free 1, h.free 2, h.free 3⟩
theorem fr_set {w : World} {b : Nat} {v0 v1 v2 v3 : Value} {t : TypeId} (h : Blk w b #[v0, v1, v2, v3] t) (x0 x1 x2 x3 : Value) :
    Blk ((((w.setCell ⟨b, 0, none⟩ x0).setCell ⟨b, 1, none⟩ x1).setCell ⟨b, 2, none⟩ x2).setCell ⟨b, 3, none⟩ x3) b #[x0, x1, x2, x3] t :=
  ((((h.set 0 x0).set 1 x1).set 2 x2).set 3 x3).as rfl
theorem fr_keep (w : World) (b : Nat) (x0 x1 x2 x3 : Value) :
    Keeps (fun k => k = b) w ((((w.setCell ⟨b, 0, none⟩ x0).setCell ⟨b, 1, none⟩ x1).setCell ⟨b, 2, none⟩ x2).setCell ⟨b, 3, none⟩ x3) :=
  ((((Keeps.refl _ w).put 0 x0).put 1 x1).put 2 x2).put 3 x3

theorem padding_none (a : Option Addr) (n c : Nat) (xs : List UInt8) (w : World) (hx : By w a n c xs) (hn : n ≤ 1000000) :
    Calls Try.prog 31 #[.int .i64 (-1), .slice a n c] w fun e w' => ∃ a' c', e = .returned (.tuple #[.slice a' n c', .int .u8 0]) ∧ Bo w.heap.size w' a' n c' xs ∧ Below w.heap.size w w' := by
  have HX := Lib.hid hx
  clear hx
  go_enter Try.func31, Try.ntmps31
  go_wp2_with (at_builtin; refine halt ?_)
  refine Halted.go (wpList_copy8 _ rfl _ rfl a n c xs rfl HX.out (by omega) ?_)
  intro a6 c6 w6 ho6 hk6
  have HO6 := Lib.hid ho6
  have HK6 := Lib.hid hk6
  clear ho6 hk6
  go_wp2_with fail
  go_returns
  exact ⟨a6, c6, rfl, HO6.out, HK6.out⟩

/-- A frame that is made. -/
def MkP (t fl st : Int) (n : Nat) (xs : List UInt8) (w : World) (e : Ending) (w' : World) : Prop :=
  ∃ a' c', e = .returned (FrV t fl st a' n c') ∧ By w' a' n c' xs ∧ (∀ b, a'.map (·.block) = some b → w.heap.size ≤ b ∧ b < w'.heap.size) ∧ Below w.heap.size w w'

set_option maxHeartbeats 1600000 in
theorem data_e (st : Int) (a : Option Addr) (n c : Nat) (xs : List UInt8) (w : World) (hx : By w a n c xs) (hn : n ≤ 1000000) :
    Calls Try.prog 27 #[.int .u32 st, .bool true, .int .i64 (-1), .slice a n c] w (MkP 0 1 st n xs w) := by
  have hb0 := (Blk.new w #[.int .u8 0, .int .u8 0, .int .u32 0, .slice none 0 0] 33).alloc (.cells #[.int .u8 0, .int .u8 0, .int .u32 st, .slice none 0 0] 33 (0, 0))
  have hb1 := Blk.new (w.alloc (.cells #[.int .u8 0, .int .u8 0, .int .u32 0, .slice none 0 0] 33 (0, 0))) #[.int .u8 0, .int .u8 0, .int .u32 st, .slice none 0 0] 33
  rw [World.size_alloc] at hb1
  have hs0 : ((w.alloc (.cells #[.int .u8 0, .int .u8 0, .int .u32 0, .slice none 0 0] 33 (0, 0))).alloc (.cells #[.int .u8 0, .int .u8 0, .int .u32 st, .slice none 0 0] 33 (0, 0))).heap.size = w.heap.size + 2 := by simp
  have hk0 := ((Below.refl w.heap.size w).alloc (Nat.le_refl _) (.cells #[.int .u8 0, .int .u8 0, .int .u32 0, .slice none 0 0] 33 (0, 0))).alloc (by simp) (.cells #[.int .u8 0, .int .u8 0, .int .u32 st, .slice none 0 0] 33 (0, 0))
  have HB0 := Lib.hid hb0
  have HB1 := Lib.hid hb1
  have HS0 := Lib.hid hs0
  have HK0 := Lib.hid hk0
  have HX := Lib.hid ((hx.alloc (.cells #[.int .u8 0, .int .u8 0, .int .u32 0, .slice none 0 0] 33 (0, 0))).alloc (.cells #[.int .u8 0, .int .u8 0, .int .u32 st, .slice none 0 0] 33 (0, 0)))
  clear hb0 hb1 hs0 hk0 hx
  go_enter Try.func27, Try.ntmps27
  go_wp2_with fail
  refine (padding_none a n c xs _ HX.out hn).mono ?_
  rintro e w1 ⟨a1, c1, rfl, ho1, hk1⟩
  have HR1 := Lib.hid ((below_no hk1).blk HB0.out (fun h => h))
  have HF1 := Lib.hid ((below_no hk1).blk HB1.out (fun h => h))
  rw [HS0.out] at ho1
  have HO1 := Lib.hid ho1
  have HK1 := Lib.hid (HK0.out.trans (hk1.mono HK0.out.size))
  clear ho1 hk1 HB0 HB1 HX HK0
  obtain ⟨⟨p0, p1, p2, p3⟩, z0, z1, z2, z3⟩ := fr_cells HF1.out
  go_upto_region 5 with fail
  refine wp_named ?_
  intro w2 hw2
  have hkk : Keeps (fun k => k = w.heap.size + 1) w1 w2 := by rw [← hw2]; exact (((Keeps.refl _ w1).put 3 _).put 1 _).put 1 _
  have hf2 : Blk w2 (w.heap.size + 1) #[.int .u8 0, .int .u8 1, .int .u32 st, .slice a1 n c1] 33 := by rw [← hw2]; exact (((HF1.out.set 3 _).set 1 _).set 1 _).as rfl
  have hr2 := hkk.blk HR1.out (by omega)
  have ho2 := HO1.out.keep hkk (fun b hb e => by have := (HO1.out.ge b hb).1; omega)
  have hk2 := Keeps.below HK1.out hkk HK1.out.size (fun k hk => by omega)
  have HR2 := Lib.hid hr2
  have HO2 := Lib.hid ho2
  have HK2 := Lib.hid hk2
  have HF2 := Lib.hid hf2
  clear hkk hf2 hr2 ho2 hk2 p0 p1 p2 p3 z0 z1 z2 z3 hw2
  obtain ⟨⟨f0, f1, f2, f3⟩, _⟩ := fr_cells HF2.out
  obtain ⟨⟨p0, p1, p2, p3⟩, z0, z1, z2, z3⟩ := fr_cells HR2.out
  have HBF := Lib.hid (fr_set HR2.out (.int .u8 0) (.int .u8 1) (.int .u32 st) (.slice a1 n c1))
  have HKF := Lib.hid (Keeps.below HK2.out (fr_keep w2 w.heap.size (.int .u8 0) (.int .u8 1) (.int .u32 st) (.slice a1 n c1)) HK2.out.size (fun k hk => by omega))
  have HYF := Lib.hid (HO2.out.keep (fr_keep w2 w.heap.size (.int .u8 0) (.int .u8 1) (.int .u32 st) (.slice a1 n c1)) (fun b hb e => by have := (HO2.out.ge b hb).1; omega))
  go_wp2_with fail
  clear f0 f1 f2 f3 p0 p1 p2 p3 z0 z1 z2 z3
  obtain ⟨⟨s0, s1, s2, s3⟩, _⟩ := fr_cells HBF.out
  (try simp only [Exit.inBlock, Exit.then])
  refine bodyPost_ret (by simp [results, Try.results27, go_sem, s0, s1, s2, s3]; try rfl) rfl ?_
  exact ⟨_, _, rfl, HYF.out.by, fun b hb => (by have := HYF.out.ge b hb; omega), HKF.out⟩

set_option maxHeartbeats 1600000 in
theorem data_n (st : Int) (a : Option Addr) (n c : Nat) (xs : List UInt8) (w : World) (hx : By w a n c xs) (hn : n ≤ 1000000) :
    Calls Try.prog 27 #[.int .u32 st, .bool false, .int .i64 (-1), .slice a n c] w (MkP 0 0 st n xs w) := by
  have hb0 := (Blk.new w #[.int .u8 0, .int .u8 0, .int .u32 0, .slice none 0 0] 33).alloc (.cells #[.int .u8 0, .int .u8 0, .int .u32 st, .slice none 0 0] 33 (0, 0))
  have hb1 := Blk.new (w.alloc (.cells #[.int .u8 0, .int .u8 0, .int .u32 0, .slice none 0 0] 33 (0, 0))) #[.int .u8 0, .int .u8 0, .int .u32 st, .slice none 0 0] 33
  rw [World.size_alloc] at hb1
  have hs0 : ((w.alloc (.cells #[.int .u8 0, .int .u8 0, .int .u32 0, .slice none 0 0] 33 (0, 0))).alloc (.cells #[.int .u8 0, .int .u8 0, .int .u32 st, .slice none 0 0] 33 (0, 0))).heap.size = w.heap.size + 2 := by simp
  have hk0 := ((Below.refl w.heap.size w).alloc (Nat.le_refl _) (.cells #[.int .u8 0, .int .u8 0, .int .u32 0, .slice none 0 0] 33 (0, 0))).alloc (by simp) (.cells #[.int .u8 0, .int .u8 0, .int .u32 st, .slice none 0 0] 33 (0, 0))
  have HB0 := Lib.hid hb0
  have HB1 := Lib.hid hb1
  have HS0 := Lib.hid hs0
  have HK0 := Lib.hid hk0
  have HX := Lib.hid ((hx.alloc (.cells #[.int .u8 0, .int .u8 0, .int .u32 0, .slice none 0 0] 33 (0, 0))).alloc (.cells #[.int .u8 0, .int .u8 0, .int .u32 st, .slice none 0 0] 33 (0, 0)))
  clear hb0 hb1 hs0 hk0 hx
  go_enter Try.func27, Try.ntmps27
  go_wp2_with fail
  refine (padding_none a n c xs _ HX.out hn).mono ?_
  rintro e w1 ⟨a1, c1, rfl, ho1, hk1⟩
  have HR1 := Lib.hid ((below_no hk1).blk HB0.out (fun h => h))
  have HF1 := Lib.hid ((below_no hk1).blk HB1.out (fun h => h))
  rw [HS0.out] at ho1
  have HO1 := Lib.hid ho1
  have HK1 := Lib.hid (HK0.out.trans (hk1.mono HK0.out.size))
  clear ho1 hk1 HB0 HB1 HX HK0
  obtain ⟨⟨p0, p1, p2, p3⟩, z0, z1, z2, z3⟩ := fr_cells HF1.out
  go_upto_region 5 with fail
  refine wp_named ?_
  intro w2 hw2
  have hkk : Keeps (fun k => k = w.heap.size + 1) w1 w2 := by rw [← hw2]; exact ((Keeps.refl _ w1).put 3 _).put 1 _
  have hf2 : Blk w2 (w.heap.size + 1) #[.int .u8 0, .int .u8 0, .int .u32 st, .slice a1 n c1] 33 := by rw [← hw2]; exact ((HF1.out.set 3 _).set 1 _).as rfl
  have hr2 := hkk.blk HR1.out (by omega)
  have ho2 := HO1.out.keep hkk (fun b hb e => by have := (HO1.out.ge b hb).1; omega)
  have hk2 := Keeps.below HK1.out hkk HK1.out.size (fun k hk => by omega)
  have HR2 := Lib.hid hr2
  have HO2 := Lib.hid ho2
  have HK2 := Lib.hid hk2
  have HF2 := Lib.hid hf2
  clear hkk hf2 hr2 ho2 hk2 p0 p1 p2 p3 z0 z1 z2 z3 hw2
  obtain ⟨⟨f0, f1, f2, f3⟩, _⟩ := fr_cells HF2.out
  obtain ⟨⟨p0, p1, p2, p3⟩, z0, z1, z2, z3⟩ := fr_cells HR2.out
  have HBF := Lib.hid (fr_set HR2.out (.int .u8 0) (.int .u8 0) (.int .u32 st) (.slice a1 n c1))
  have HKF := Lib.hid (Keeps.below HK2.out (fr_keep w2 w.heap.size (.int .u8 0) (.int .u8 0) (.int .u32 st) (.slice a1 n c1)) HK2.out.size (fun k hk => by omega))
  have HYF := Lib.hid (HO2.out.keep (fr_keep w2 w.heap.size (.int .u8 0) (.int .u8 0) (.int .u32 st) (.slice a1 n c1)) (fun b hb e => by have := (HO2.out.ge b hb).1; omega))
  go_wp2_with fail
  clear f0 f1 f2 f3 p0 p1 p2 p3 z0 z1 z2 z3
  obtain ⟨⟨s0, s1, s2, s3⟩, _⟩ := fr_cells HBF.out
  (try simp only [Exit.inBlock, Exit.then])
  refine bodyPost_ret (by simp [results, Try.results27, go_sem, s0, s1, s2, s3]; try rfl) rfl ?_
  exact ⟨_, _, rfl, HYF.out.by, fun b hb => (by have := HYF.out.ge b hb; omega), HKF.out⟩

set_option maxHeartbeats 1600000 in
theorem headers_el (st : Int) (a : Option Addr) (n c : Nat) (xs : List UInt8) (w : World) (hx : By w a n c xs) (hn : n ≤ 1000000) :
    Calls Try.prog 18 #[.int .u32 st, .bool true, .bool true, .int .i64 (-1), .slice a n c] w (MkP 1 5 st n xs w) := by
  have HB0 := Lib.hid (Blk.new w #[.int .u8 0, .int .u8 0, .int .u32 0, .slice none 0 0] 33)
  have HK0 := Lib.hid ((Below.refl w.heap.size w).alloc (Nat.le_refl _) (.cells #[.int .u8 0, .int .u8 0, .int .u32 0, .slice none 0 0] 33 (0, 0)))
  have HX := Lib.hid (hx.alloc (.cells #[.int .u8 0, .int .u8 0, .int .u32 0, .slice none 0 0] 33 (0, 0)))
  clear hx
  go_enter Try.func18, Try.ntmps18
  go_wp2_with fail
  refine (data_e st a n c xs _ HX.out hn).mono ?_
  rintro e w1 ⟨a1, c1, rfl, hy1, hg1, hk1⟩
  have HR1 := Lib.hid ((below_no hk1).blk HB0.out (fun h => h))
  have HK1 := Lib.hid (HK0.out.trans (hk1.mono HK0.out.size))
  have HY1 := Lib.hid hy1
  have HG1 : Hid (∀ b, a1.map (·.block) = some b → w.heap.size + 1 ≤ b ∧ b < w1.heap.size) := fun b hb => by have h := hg1 b hb; rw [World.size_alloc] at h; exact h
  have HS1 : Hid (w.heap.size + 1 ≤ w1.heap.size) := by show _ ≤ _; have h := hk1.size; rw [World.size_alloc] at h; exact h
  clear hy1 hg1 hk1 HB0 HK0 HX
  unfold FrV
  have n1 := Blk.new w1 #[.int .u8 0, .int .u8 1, .int .u32 st, .slice a1 n c1] 33
  obtain ⟨⟨q0, q1, q2, q3⟩, x0, x1, x2, x3⟩ := fr_cells n1
  clear n1
  go_upto_region 5 with fail
  refine wp_named ?_
  intro w2 hw2
  have hkk : Keeps (fun _ => False) w1 w2 := by
    rw [← hw2]
    first
      | exact (Keeps.refl _ w1).alloc _
      | exact (((Keeps.refl _ w1).alloc _).setCell (fun h => by simp at h) _)
      | exact ((((Keeps.refl _ w1).alloc _).setCell (fun h => by simp at h) _).setCell (fun h => by simp at h) _)
  have hf2 : Blk w2 w1.heap.size #[.int .u8 1, .int .u8 5, .int .u32 st, .slice a1 n c1] 33 := by
    rw [← hw2]
    first
      | exact Blk.new w1 _ _
      | exact ((Blk.new w1 #[.int .u8 0, .int .u8 1, .int .u32 st, .slice a1 n c1] 33).set 0 _).as rfl
      | exact (((Blk.new w1 #[.int .u8 0, .int .u8 1, .int .u32 st, .slice a1 n c1] 33).set 0 _).set 1 _).as rfl
  have hr2 := hkk.blk HR1.out (fun h => h)
  have hy2 := HY1.out.keep hkk (fun _ _ h => h)
  have HR2 := Lib.hid hr2
  have HY2 := Lib.hid hy2
  have HK2 : Hid (Below w.heap.size w w2) := Keeps.below HK1.out hkk HK1.out.size (fun k hk => hk.elim)
  have HZ2 : Hid (w1.heap.size ≤ w2.heap.size) := hkk.size
  have HF2 := Lib.hid hf2
  clear hkk hf2 hr2 hy2 hw2 q0 q1 q2 q3 x0 x1 x2 x3
  obtain ⟨⟨f0, f1, f2, f3⟩, _⟩ := fr_cells HF2.out
  obtain ⟨⟨p0, p1, p2, p3⟩, z0, z1, z2, z3⟩ := fr_cells HR2.out
  have HBF := Lib.hid (fr_set HR2.out (.int .u8 1) (.int .u8 5) (.int .u32 st) (.slice a1 n c1))
  have HKF := Lib.hid (Keeps.below HK2.out (fr_keep w2 w.heap.size (.int .u8 1) (.int .u8 5) (.int .u32 st) (.slice a1 n c1)) HK2.out.size (fun k hk => by omega))
  have HYF := Lib.hid (HY2.out.keep (fr_keep w2 w.heap.size (.int .u8 1) (.int .u8 5) (.int .u32 st) (.slice a1 n c1)) (fun b hb e => by have := (HG1.out b hb).1; omega))
  have HZF : Hid (w2.heap.size ≤ ((((w2.setCell ⟨w.heap.size, 0, none⟩ (.int .u8 1)).setCell ⟨w.heap.size, 1, none⟩ (.int .u8 5)).setCell ⟨w.heap.size, 2, none⟩ (.int .u32 st)).setCell ⟨w.heap.size, 3, none⟩ (.slice a1 n c1)).heap.size) := (fr_keep w2 w.heap.size (.int .u8 1) (.int .u8 5) (.int .u32 st) (.slice a1 n c1)).size
  go_wp2_with fail
  clear f0 f1 f2 f3 p0 p1 p2 p3 z0 z1 z2 z3
  obtain ⟨⟨s0, s1, s2, s3⟩, _⟩ := fr_cells HBF.out
  (try simp only [Exit.inBlock, Exit.then])
  refine bodyPost_ret (by simp [results, Try.results18, go_sem, s0, s1, s2, s3]; try rfl) rfl ?_
  exact ⟨_, _, rfl, HYF.out, fun b hb => (by have h1 := HG1.out b hb; have h2 := HZ2.out; have h3 := HZF.out; omega), HKF.out⟩

set_option maxHeartbeats 1600000 in
theorem headers_em (st : Int) (a : Option Addr) (n c : Nat) (xs : List UInt8) (w : World) (hx : By w a n c xs) (hn : n ≤ 1000000) :
    Calls Try.prog 18 #[.int .u32 st, .bool true, .bool false, .int .i64 (-1), .slice a n c] w (MkP 1 1 st n xs w) := by
  have HB0 := Lib.hid (Blk.new w #[.int .u8 0, .int .u8 0, .int .u32 0, .slice none 0 0] 33)
  have HK0 := Lib.hid ((Below.refl w.heap.size w).alloc (Nat.le_refl _) (.cells #[.int .u8 0, .int .u8 0, .int .u32 0, .slice none 0 0] 33 (0, 0)))
  have HX := Lib.hid (hx.alloc (.cells #[.int .u8 0, .int .u8 0, .int .u32 0, .slice none 0 0] 33 (0, 0)))
  clear hx
  go_enter Try.func18, Try.ntmps18
  go_wp2_with fail
  refine (data_e st a n c xs _ HX.out hn).mono ?_
  rintro e w1 ⟨a1, c1, rfl, hy1, hg1, hk1⟩
  have HR1 := Lib.hid ((below_no hk1).blk HB0.out (fun h => h))
  have HK1 := Lib.hid (HK0.out.trans (hk1.mono HK0.out.size))
  have HY1 := Lib.hid hy1
  have HG1 : Hid (∀ b, a1.map (·.block) = some b → w.heap.size + 1 ≤ b ∧ b < w1.heap.size) := fun b hb => by have h := hg1 b hb; rw [World.size_alloc] at h; exact h
  have HS1 : Hid (w.heap.size + 1 ≤ w1.heap.size) := by show _ ≤ _; have h := hk1.size; rw [World.size_alloc] at h; exact h
  clear hy1 hg1 hk1 HB0 HK0 HX
  unfold FrV
  have n1 := Blk.new w1 #[.int .u8 0, .int .u8 1, .int .u32 st, .slice a1 n c1] 33
  obtain ⟨⟨q0, q1, q2, q3⟩, x0, x1, x2, x3⟩ := fr_cells n1
  clear n1
  go_upto_region 5 with fail
  refine wp_named ?_
  intro w2 hw2
  have hkk : Keeps (fun _ => False) w1 w2 := by
    rw [← hw2]
    first
      | exact (Keeps.refl _ w1).alloc _
      | exact (((Keeps.refl _ w1).alloc _).setCell (fun h => by simp at h) _)
      | exact ((((Keeps.refl _ w1).alloc _).setCell (fun h => by simp at h) _).setCell (fun h => by simp at h) _)
  have hf2 : Blk w2 w1.heap.size #[.int .u8 1, .int .u8 1, .int .u32 st, .slice a1 n c1] 33 := by
    rw [← hw2]
    first
      | exact Blk.new w1 _ _
      | exact ((Blk.new w1 #[.int .u8 0, .int .u8 1, .int .u32 st, .slice a1 n c1] 33).set 0 _).as rfl
      | exact (((Blk.new w1 #[.int .u8 0, .int .u8 1, .int .u32 st, .slice a1 n c1] 33).set 0 _).set 1 _).as rfl
  have hr2 := hkk.blk HR1.out (fun h => h)
  have hy2 := HY1.out.keep hkk (fun _ _ h => h)
  have HR2 := Lib.hid hr2
  have HY2 := Lib.hid hy2
  have HK2 : Hid (Below w.heap.size w w2) := Keeps.below HK1.out hkk HK1.out.size (fun k hk => hk.elim)
  have HZ2 : Hid (w1.heap.size ≤ w2.heap.size) := hkk.size
  have HF2 := Lib.hid hf2
  clear hkk hf2 hr2 hy2 hw2 q0 q1 q2 q3 x0 x1 x2 x3
  obtain ⟨⟨f0, f1, f2, f3⟩, _⟩ := fr_cells HF2.out
  obtain ⟨⟨p0, p1, p2, p3⟩, z0, z1, z2, z3⟩ := fr_cells HR2.out
  have HBF := Lib.hid (fr_set HR2.out (.int .u8 1) (.int .u8 1) (.int .u32 st) (.slice a1 n c1))
  have HKF := Lib.hid (Keeps.below HK2.out (fr_keep w2 w.heap.size (.int .u8 1) (.int .u8 1) (.int .u32 st) (.slice a1 n c1)) HK2.out.size (fun k hk => by omega))
  have HYF := Lib.hid (HY2.out.keep (fr_keep w2 w.heap.size (.int .u8 1) (.int .u8 1) (.int .u32 st) (.slice a1 n c1)) (fun b hb e => by have := (HG1.out b hb).1; omega))
  have HZF : Hid (w2.heap.size ≤ ((((w2.setCell ⟨w.heap.size, 0, none⟩ (.int .u8 1)).setCell ⟨w.heap.size, 1, none⟩ (.int .u8 1)).setCell ⟨w.heap.size, 2, none⟩ (.int .u32 st)).setCell ⟨w.heap.size, 3, none⟩ (.slice a1 n c1)).heap.size) := (fr_keep w2 w.heap.size (.int .u8 1) (.int .u8 1) (.int .u32 st) (.slice a1 n c1)).size
  go_wp2_with fail
  clear f0 f1 f2 f3 p0 p1 p2 p3 z0 z1 z2 z3
  obtain ⟨⟨s0, s1, s2, s3⟩, _⟩ := fr_cells HBF.out
  (try simp only [Exit.inBlock, Exit.then])
  refine bodyPost_ret (by simp [results, Try.results18, go_sem, s0, s1, s2, s3]; try rfl) rfl ?_
  exact ⟨_, _, rfl, HYF.out, fun b hb => (by have h1 := HG1.out b hb; have h2 := HZ2.out; have h3 := HZF.out; omega), HKF.out⟩

set_option maxHeartbeats 1600000 in
theorem headers_nl (st : Int) (a : Option Addr) (n c : Nat) (xs : List UInt8) (w : World) (hx : By w a n c xs) (hn : n ≤ 1000000) :
    Calls Try.prog 18 #[.int .u32 st, .bool false, .bool true, .int .i64 (-1), .slice a n c] w (MkP 1 4 st n xs w) := by
  have HB0 := Lib.hid (Blk.new w #[.int .u8 0, .int .u8 0, .int .u32 0, .slice none 0 0] 33)
  have HK0 := Lib.hid ((Below.refl w.heap.size w).alloc (Nat.le_refl _) (.cells #[.int .u8 0, .int .u8 0, .int .u32 0, .slice none 0 0] 33 (0, 0)))
  have HX := Lib.hid (hx.alloc (.cells #[.int .u8 0, .int .u8 0, .int .u32 0, .slice none 0 0] 33 (0, 0)))
  clear hx
  go_enter Try.func18, Try.ntmps18
  go_wp2_with fail
  refine (data_n st a n c xs _ HX.out hn).mono ?_
  rintro e w1 ⟨a1, c1, rfl, hy1, hg1, hk1⟩
  have HR1 := Lib.hid ((below_no hk1).blk HB0.out (fun h => h))
  have HK1 := Lib.hid (HK0.out.trans (hk1.mono HK0.out.size))
  have HY1 := Lib.hid hy1
  have HG1 : Hid (∀ b, a1.map (·.block) = some b → w.heap.size + 1 ≤ b ∧ b < w1.heap.size) := fun b hb => by have h := hg1 b hb; rw [World.size_alloc] at h; exact h
  have HS1 : Hid (w.heap.size + 1 ≤ w1.heap.size) := by show _ ≤ _; have h := hk1.size; rw [World.size_alloc] at h; exact h
  clear hy1 hg1 hk1 HB0 HK0 HX
  unfold FrV
  have n1 := Blk.new w1 #[.int .u8 0, .int .u8 0, .int .u32 st, .slice a1 n c1] 33
  obtain ⟨⟨q0, q1, q2, q3⟩, x0, x1, x2, x3⟩ := fr_cells n1
  clear n1
  go_upto_region 5 with fail
  refine wp_named ?_
  intro w2 hw2
  have hkk : Keeps (fun _ => False) w1 w2 := by
    rw [← hw2]
    first
      | exact (Keeps.refl _ w1).alloc _
      | exact (((Keeps.refl _ w1).alloc _).setCell (fun h => by simp at h) _)
      | exact ((((Keeps.refl _ w1).alloc _).setCell (fun h => by simp at h) _).setCell (fun h => by simp at h) _)
  have hf2 : Blk w2 w1.heap.size #[.int .u8 1, .int .u8 4, .int .u32 st, .slice a1 n c1] 33 := by
    rw [← hw2]
    first
      | exact Blk.new w1 _ _
      | exact ((Blk.new w1 #[.int .u8 0, .int .u8 0, .int .u32 st, .slice a1 n c1] 33).set 0 _).as rfl
      | exact (((Blk.new w1 #[.int .u8 0, .int .u8 0, .int .u32 st, .slice a1 n c1] 33).set 0 _).set 1 _).as rfl
  have hr2 := hkk.blk HR1.out (fun h => h)
  have hy2 := HY1.out.keep hkk (fun _ _ h => h)
  have HR2 := Lib.hid hr2
  have HY2 := Lib.hid hy2
  have HK2 : Hid (Below w.heap.size w w2) := Keeps.below HK1.out hkk HK1.out.size (fun k hk => hk.elim)
  have HZ2 : Hid (w1.heap.size ≤ w2.heap.size) := hkk.size
  have HF2 := Lib.hid hf2
  clear hkk hf2 hr2 hy2 hw2 q0 q1 q2 q3 x0 x1 x2 x3
  obtain ⟨⟨f0, f1, f2, f3⟩, _⟩ := fr_cells HF2.out
  obtain ⟨⟨p0, p1, p2, p3⟩, z0, z1, z2, z3⟩ := fr_cells HR2.out
  have HBF := Lib.hid (fr_set HR2.out (.int .u8 1) (.int .u8 4) (.int .u32 st) (.slice a1 n c1))
  have HKF := Lib.hid (Keeps.below HK2.out (fr_keep w2 w.heap.size (.int .u8 1) (.int .u8 4) (.int .u32 st) (.slice a1 n c1)) HK2.out.size (fun k hk => by omega))
  have HYF := Lib.hid (HY2.out.keep (fr_keep w2 w.heap.size (.int .u8 1) (.int .u8 4) (.int .u32 st) (.slice a1 n c1)) (fun b hb e => by have := (HG1.out b hb).1; omega))
  have HZF : Hid (w2.heap.size ≤ ((((w2.setCell ⟨w.heap.size, 0, none⟩ (.int .u8 1)).setCell ⟨w.heap.size, 1, none⟩ (.int .u8 4)).setCell ⟨w.heap.size, 2, none⟩ (.int .u32 st)).setCell ⟨w.heap.size, 3, none⟩ (.slice a1 n c1)).heap.size) := (fr_keep w2 w.heap.size (.int .u8 1) (.int .u8 4) (.int .u32 st) (.slice a1 n c1)).size
  go_wp2_with fail
  clear f0 f1 f2 f3 p0 p1 p2 p3 z0 z1 z2 z3
  obtain ⟨⟨s0, s1, s2, s3⟩, _⟩ := fr_cells HBF.out
  (try simp only [Exit.inBlock, Exit.then])
  refine bodyPost_ret (by simp [results, Try.results18, go_sem, s0, s1, s2, s3]; try rfl) rfl ?_
  exact ⟨_, _, rfl, HYF.out, fun b hb => (by have h1 := HG1.out b hb; have h2 := HZ2.out; have h3 := HZF.out; omega), HKF.out⟩

set_option maxHeartbeats 1600000 in
theorem headers_nm (st : Int) (a : Option Addr) (n c : Nat) (xs : List UInt8) (w : World) (hx : By w a n c xs) (hn : n ≤ 1000000) :
    Calls Try.prog 18 #[.int .u32 st, .bool false, .bool false, .int .i64 (-1), .slice a n c] w (MkP 1 0 st n xs w) := by
  have HB0 := Lib.hid (Blk.new w #[.int .u8 0, .int .u8 0, .int .u32 0, .slice none 0 0] 33)
  have HK0 := Lib.hid ((Below.refl w.heap.size w).alloc (Nat.le_refl _) (.cells #[.int .u8 0, .int .u8 0, .int .u32 0, .slice none 0 0] 33 (0, 0)))
  have HX := Lib.hid (hx.alloc (.cells #[.int .u8 0, .int .u8 0, .int .u32 0, .slice none 0 0] 33 (0, 0)))
  clear hx
  go_enter Try.func18, Try.ntmps18
  go_wp2_with fail
  refine (data_n st a n c xs _ HX.out hn).mono ?_
  rintro e w1 ⟨a1, c1, rfl, hy1, hg1, hk1⟩
  have HR1 := Lib.hid ((below_no hk1).blk HB0.out (fun h => h))
  have HK1 := Lib.hid (HK0.out.trans (hk1.mono HK0.out.size))
  have HY1 := Lib.hid hy1
  have HG1 : Hid (∀ b, a1.map (·.block) = some b → w.heap.size + 1 ≤ b ∧ b < w1.heap.size) := fun b hb => by have h := hg1 b hb; rw [World.size_alloc] at h; exact h
  have HS1 : Hid (w.heap.size + 1 ≤ w1.heap.size) := by show _ ≤ _; have h := hk1.size; rw [World.size_alloc] at h; exact h
  clear hy1 hg1 hk1 HB0 HK0 HX
  unfold FrV
  have n1 := Blk.new w1 #[.int .u8 0, .int .u8 0, .int .u32 st, .slice a1 n c1] 33
  obtain ⟨⟨q0, q1, q2, q3⟩, x0, x1, x2, x3⟩ := fr_cells n1
  clear n1
  go_upto_region 5 with fail
  refine wp_named ?_
  intro w2 hw2
  have hkk : Keeps (fun _ => False) w1 w2 := by
    rw [← hw2]
    first
      | exact (Keeps.refl _ w1).alloc _
      | exact (((Keeps.refl _ w1).alloc _).setCell (fun h => by simp at h) _)
      | exact ((((Keeps.refl _ w1).alloc _).setCell (fun h => by simp at h) _).setCell (fun h => by simp at h) _)
  have hf2 : Blk w2 w1.heap.size #[.int .u8 1, .int .u8 0, .int .u32 st, .slice a1 n c1] 33 := by
    rw [← hw2]
    first
      | exact Blk.new w1 _ _
      | exact ((Blk.new w1 #[.int .u8 0, .int .u8 0, .int .u32 st, .slice a1 n c1] 33).set 0 _).as rfl
      | exact (((Blk.new w1 #[.int .u8 0, .int .u8 0, .int .u32 st, .slice a1 n c1] 33).set 0 _).set 1 _).as rfl
  have hr2 := hkk.blk HR1.out (fun h => h)
  have hy2 := HY1.out.keep hkk (fun _ _ h => h)
  have HR2 := Lib.hid hr2
  have HY2 := Lib.hid hy2
  have HK2 : Hid (Below w.heap.size w w2) := Keeps.below HK1.out hkk HK1.out.size (fun k hk => hk.elim)
  have HZ2 : Hid (w1.heap.size ≤ w2.heap.size) := hkk.size
  have HF2 := Lib.hid hf2
  clear hkk hf2 hr2 hy2 hw2 q0 q1 q2 q3 x0 x1 x2 x3
  obtain ⟨⟨f0, f1, f2, f3⟩, _⟩ := fr_cells HF2.out
  obtain ⟨⟨p0, p1, p2, p3⟩, z0, z1, z2, z3⟩ := fr_cells HR2.out
  have HBF := Lib.hid (fr_set HR2.out (.int .u8 1) (.int .u8 0) (.int .u32 st) (.slice a1 n c1))
  have HKF := Lib.hid (Keeps.below HK2.out (fr_keep w2 w.heap.size (.int .u8 1) (.int .u8 0) (.int .u32 st) (.slice a1 n c1)) HK2.out.size (fun k hk => by omega))
  have HYF := Lib.hid (HY2.out.keep (fr_keep w2 w.heap.size (.int .u8 1) (.int .u8 0) (.int .u32 st) (.slice a1 n c1)) (fun b hb e => by have := (HG1.out b hb).1; omega))
  have HZF : Hid (w2.heap.size ≤ ((((w2.setCell ⟨w.heap.size, 0, none⟩ (.int .u8 1)).setCell ⟨w.heap.size, 1, none⟩ (.int .u8 0)).setCell ⟨w.heap.size, 2, none⟩ (.int .u32 st)).setCell ⟨w.heap.size, 3, none⟩ (.slice a1 n c1)).heap.size) := (fr_keep w2 w.heap.size (.int .u8 1) (.int .u8 0) (.int .u32 st) (.slice a1 n c1)).size
  go_wp2_with fail
  clear f0 f1 f2 f3 p0 p1 p2 p3 z0 z1 z2 z3
  obtain ⟨⟨s0, s1, s2, s3⟩, _⟩ := fr_cells HBF.out
  (try simp only [Exit.inBlock, Exit.then])
  refine bodyPost_ret (by simp [results, Try.results18, go_sem, s0, s1, s2, s3]; try rfl) rfl ?_
  exact ⟨_, _, rfl, HYF.out, fun b hb => (by have h1 := HG1.out b hb; have h2 := HZ2.out; have h3 := HZF.out; omega), HKF.out⟩

def hfl (en la : Bool) : Int := (if en then 1 else 0) + (if la then 4 else 0)
theorem headers_any (st : Int) (en la : Bool) (a : Option Addr) (n c : Nat) (xs : List UInt8) (w : World) (hx : By w a n c xs) (hn : n ≤ 1000000) :
    Calls Try.prog 18 #[.int .u32 st, .bool en, .bool la, .int .i64 (-1), .slice a n c] w (MkP 1 (hfl en la) st n xs w) := by
  cases en <;> cases la
  · exact headers_nm st a n c xs w hx hn
  · exact headers_nl st a n c xs w hx hn
  · exact headers_em st a n c xs w hx hn
  · exact headers_el st a n c xs w hx hn

end Go.Proofs.Ytcfljnlfikkhaaa
