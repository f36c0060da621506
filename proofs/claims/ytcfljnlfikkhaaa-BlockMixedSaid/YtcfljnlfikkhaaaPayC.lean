/- A payload that is told: data, headers. -/
import Derived.Test.YtcfljnlfikkhaaaPayB
import Derived.Deep.RegionWith
import Derived.Deep.DeepMust
import Derived.Deep.DeepCutAuto
namespace Go.Proofs.Ytcfljnlfikkhaaa
open Go.RowKit Go.Deep

def offA (a : Option Addr) (cap lo : Nat) : Option Addr := if cap = lo then a else a.map (fun x => x.add lo)
theorem offA_eq (a : Option Addr) (cap lo : Nat) : (if cap = lo then a else a.map (fun x => x.add lo)) = offA a cap lo := rfl
theorem offA_block (a : Option Addr) (cap lo : Nat) : (offA a cap lo).map (·.block) = a.map (·.block) := by
  unfold offA
  split
  · rfl
  · cases a with
    | none => rfl
    | some x =>
      show some (x.add lo).block = some x.block
      unfold Addr.add
      split <;> rfl
theorem By.alloc {w : World} {a : Option Addr} {n cap : Nat} {xs : List UInt8} (h : By w a n cap xs) (o : Obj) : By (w.alloc o) a n cap xs := ⟨h.1, h.2.alloc o⟩
theorem By.mid {w : World} {a : Option Addr} {n cap : Nat} {xs : List UInt8} (h : By w a n cap xs) (lo hi : Nat) (h1 : lo ≤ hi) (h2 : hi ≤ n) : By w (offA a cap lo) (hi - lo) (cap - lo) ((xs.drop lo).take (hi - lo)) := by
  have := h.sub lo hi h1 h2
  rwa [Nat.mul_one] at this
theorem By.from {w : World} {a : Option Addr} {n cap : Nat} {xs : List UInt8} (h : By w a n cap xs) (lo : Nat) (h2 : lo ≤ n) : By w (offA a cap lo) (n - lo) (cap - lo) (xs.drop lo) := by
  have := h.mid lo n h2 (Nat.le_refl _)
  rwa [List.take_of_length_le (by rw [List.length_drop, h.1]; exact Nat.le_refl _)] at this

theorem By.grow {w w' : World} {a : Option Addr} {n cap : Nat} {xs : List UInt8} (h : By w a n cap xs) (k : Below w.heap.size w w') : By w' a n cap xs := by
  refine ⟨h.1, h.2.le, h.2.max, h.2.len, ?_⟩
  rcases h.2.at_ with h0 | ⟨b, off, ha, hb, hc⟩
  · exact .inl h0
  · exact .inr ⟨b, off, ha, Nat.lt_of_lt_of_le hb k.size, fun i v hv => (k.cell (p := ⟨b, off + i, none⟩) hb).trans (hc i v hv)⟩
theorem ahead_is (t fl st : Int) (a : Option Addr) (n cap : Nat) (w : World) {z : Int} (h : aheadI t fl = z) :
    Calls Try.prog 22 #[FrV t fl st a n cap] w fun e w' => e = .returned (.int .i64 z) ∧ Below w.heap.size w w' := by
  subst h
  exact ahead_any t fl st a n cap w
theorem pad_is (t fl st : Int) (a : Option Addr) (n cap : Nat) (xs : List UInt8) (w : World) (hx : By w a n cap xs) (hp : padP t fl = true → 0 < n) {z : Int} (h : padI t fl xs = z) :
    Calls Try.prog 21 #[FrV t fl st a n cap] w fun e w' => e = .returned (.int .i64 z) ∧ Below w.heap.size w w' := by
  subst h
  exact pad_any t fl st a n cap xs w hx hp

/-- A payload told. -/
def PyV (a : Option Addr) (n cap : Nat) (b : Option Addr) (m cbp : Nat) (c s i : Int) : Value := .agg #[.slice a n cap, .slice b m cbp, .int .u32 c, .int .u32 s, .int .u32 i]

theorem pay_cells {w : World} {b : Nat} {v0 v1 v2 v3 v4 : Value} {t : TypeId} (h : Blk w b #[v0, v1, v2, v3, v4] t) :
    (w.cell? ⟨b, 0, none⟩ = some v0 ∧ w.cell? ⟨b, 1, none⟩ = some v1 ∧ w.cell? ⟨b, 2, none⟩ = some v2 ∧ w.cell? ⟨b, 3, none⟩ = some v3 ∧ w.cell? ⟨b, 4, none⟩ = some v4) ∧
    (w.frozen? ⟨b, 0, none⟩ = false ∧ w.frozen? ⟨b, 1, none⟩ = false ∧ w.frozen? ⟨b, 2, none⟩ = false ∧ w.frozen? ⟨b, 3, none⟩ = false ∧ w.frozen? ⟨b, 4, none⟩ = false) :=
  ⟨⟨h.cell 0, h.cell 1, h.cell 2, h.cell 3, h.cell 4⟩, h.free 0, h.free 1, h.free 2, h.free 3, h.free 4⟩

theorem pay_set {w : World} {b : Nat} {v0 v1 v2 v3 v4 : Value} {t : TypeId} (h : Blk w b #[v0, v1, v2, v3, v4] t) (x0 x1 x2 x3 x4 : Value) :
    Blk (((((w.setCell ⟨b, 0, none⟩ x0).setCell ⟨b, 1, none⟩ x1).setCell ⟨b, 2, none⟩ x2).setCell ⟨b, 3, none⟩ x3).setCell ⟨b, 4, none⟩ x4) b #[x0, x1, x2, x3, x4] t :=
  (((((h.set 0 x0).set 1 x1).set 2 x2).set 3 x3).set 4 x4).as rfl
theorem pay_keep (w : World) (b : Nat) (x0 x1 x2 x3 x4 : Value) :
    Keeps (fun k => k = b) w (((((w.setCell ⟨b, 0, none⟩ x0).setCell ⟨b, 1, none⟩ x1).setCell ⟨b, 2, none⟩ x2).setCell ⟨b, 3, none⟩ x3).setCell ⟨b, 4, none⟩ x4) :=
  (((((Keeps.refl _ w).put 0 x0).put 1 x1).put 2 x2).put 3 x3).put 4 x4

set_option maxHeartbeats 3200000 in
theorem told_any (t fl st : Int) (a : Option Addr) (n cap : Nat) (xs : List UInt8) (ah pd hi : Nat) (w : World) (hx : By w a n cap xs) (hn : n ≤ 1000000) (ht : t = 0 ∨ t = 1) (ha : aheadI t fl = ah) (hp : padI t fl xs = pd) (hhi : n = hi + pd) (hl : ah ≤ hi) (h0 : padP t fl = true → 0 < n) :
    Calls Try.prog 23 #[FrV t fl st a n cap] w fun e w' => ∃ a' c', e = .returned (PyV a' (hi - ah) c' none 0 0 0 0 0) ∧ By w' a' (hi - ah) c' ((xs.drop ah).take (hi - ah)) ∧ (∀ b, a'.map (·.block) = some b → w.heap.size ≤ b) ∧ Below w.heap.size w w' := by
  have hk0 := ((Below.refl w.heap.size w).alloc (Nat.le_refl _) (.cells #[.int .u8 t, .int .u8 fl, .int .u32 st, .slice a n cap] 33 (0, 0))).alloc (by simp) (.cells #[.slice none 0 0, .slice none 0 0, .int .u32 0, .int .u32 0, .int .u32 0] 49 (0, 0))
  have hb0 := (Blk.new w #[.int .u8 t, .int .u8 fl, .int .u32 st, .slice a n cap] 33).alloc (.cells #[.slice none 0 0, .slice none 0 0, .int .u32 0, .int .u32 0, .int .u32 0] 49 (0, 0))
  have hb1 := Blk.new (w.alloc (.cells #[.int .u8 t, .int .u8 fl, .int .u32 st, .slice a n cap] 33 (0, 0))) #[.slice none 0 0, .slice none 0 0, .int .u32 0, .int .u32 0, .int .u32 0] 49
  rw [World.size_alloc] at hb1
  have HK0 := Lib.hid hk0
  have HB0 := Lib.hid hb0
  have HB1 := Lib.hid hb1
  have HX := Lib.hid hx
  have HA := Lib.hid ha
  have HP := Lib.hid hp
  have H0 := Lib.hid h0
  have HHI := Lib.hid hhi
  clear hk0 hb0 hb1 hx ha hp h0 hhi
  unfold FrV
  go_enter Try.func23, Try.ntmps23
  go_wp2_with (at_builtin; refine halt ?_)
  refine Halted.go (wpList_copy8 _ rfl _ rfl a n cap xs rfl ((HX.out.alloc _).alloc _) (by omega) ?_)
  intro a6 c6 w6 ho6 hk6
  have hs0 : ((w.alloc (.cells #[.int .u8 t, .int .u8 fl, .int .u32 st, .slice a n cap] 33 (0, 0))).alloc (.cells #[.slice none 0 0, .slice none 0 0, .int .u32 0, .int .u32 0, .int .u32 0] 49 (0, 0))).heap.size = w.heap.size + 2 := by simp
  have HF6 := Lib.hid ((Below.keeps hk6).blk HB0.out (by rw [hs0]; omega))
  have HR6 := Lib.hid ((Below.keeps hk6).blk HB1.out (by rw [hs0]; omega))
  have HX6 := Lib.hid (((HX.out.alloc _).alloc _).grow hk6)
  have HK6 := Lib.hid (HK0.out.trans (hk6.mono (by rw [hs0]; omega)))
  rw [hs0] at ho6
  have HO6 := Lib.hid ho6
  have hs6 : w.heap.size + 2 ≤ w6.heap.size := by have := hk6.size; rw [hs0] at this; exact this
  have hf6 := HF6.out
  have f0 : w6.cell? ⟨w.heap.size, 0, none⟩ = some (.int .u8 t) := hf6.cell 0
  have f1 : w6.cell? ⟨w.heap.size, 1, none⟩ = some (.int .u8 fl) := hf6.cell 1
  have f2 : w6.cell? ⟨w.heap.size, 2, none⟩ = some (.int .u32 st) := hf6.cell 2
  have f3 : w6.cell? ⟨w.heap.size, 3, none⟩ = some (.slice a n cap) := hf6.cell 3
  clear hs0 ho6 hk6 hf6 HK0 HB0 HB1 HX
  have hsd : w.heap.size + 2 ≤ w6.drew.heap.size := hs6
  have ho7 := offA_eq a6 c6 ah
  have hc6 := HO6.out.by.2.le
  have hw1 : IntKind.i64.wrap ((n : Int) - (pd : Int)) = (hi : Int) := by have := HHI.out; rw [IntKind.wrap_i64]; omega
  have hw2 : wrap64 ((n : Int) - (pd : Int)) = (hi : Int) := by have := HHI.out; unfold wrap64; omega
  have hz0 : (0 : Int) ≤ (ah : Int) := by omega
  have hz1 : (ah : Int) ≤ (hi : Int) := by omega
  have hz2 : (hi : Int) ≤ (c6 : Int) := by have := HHI.out; omega
  have hz3 : ah ≤ hi := by omega
  have hz4 : hi ≤ c6 := by omega
  have hz5 : (0 : Int) ≤ (hi : Int) := by omega
  go_upto_region 5 with fail
  all_goals (
    go_region_with (first
      | (go_at_call 22
         go_must (
           refine (ahead_is _ fl st a n cap _ HA.out).mono ?_
           rintro e w7 ⟨rfl, hk7⟩
           have hs67 : w.heap.size + 2 ≤ w7.heap.size := Nat.le_trans hs6 hk7.size
           have HF7 := Lib.hid ((Below.keeps hk7).blk (HF6.out.drew) (by omega))
           have HR7 := Lib.hid ((Below.keeps hk7).blk (HR6.out.drew) (by omega))
           have HX7 := Lib.hid (By.grow (w := w6.drew) ⟨HX6.out.1, HX6.out.2.drew⟩ hk7)
           have HK7 := Lib.hid (HK6.out.drew.trans (hk7.mono HK6.out.size))
           have HY7 := Lib.hid (By.grow (w := w6.drew) ⟨HO6.out.by.1, HO6.out.by.2.drew⟩ hk7)
           have g0 : w7.cell? ⟨w.heap.size, 0, none⟩ = _ := HF7.out.cell 0
           have g1 : w7.cell? ⟨w.heap.size, 1, none⟩ = _ := HF7.out.cell 1
           have g2 : w7.cell? ⟨w.heap.size, 2, none⟩ = _ := HF7.out.cell 2
           have g3 : w7.cell? ⟨w.heap.size, 3, none⟩ = _ := HF7.out.cell 3
           clear hk7))
      | (go_at_call 21
         go_must (
           refine (pad_is _ fl st a n cap xs w7 HX7.out H0.out HP.out).mono ?_
           rintro e w8 ⟨rfl, hk8⟩
           have HR8 := Lib.hid ((Below.keeps hk8).blk HR7.out (by omega))
           have HK8 := Lib.hid (HK7.out.trans (hk8.mono HK7.out.size))
           have HY8 := Lib.hid (HY7.out.grow hk8)
           obtain ⟨⟨p0, p1, p2, p3, p4⟩, z0, z1, z2, z3, z4⟩ := pay_cells HR8.out
           clear hk8)))
    all_goals (
      have HBF := Lib.hid (pay_set HR8.out (.slice (offA a6 c6 ah) (hi - ah) (c6 - ah)) (.slice none 0 0) (.int .u32 0) (.int .u32 0) (.int .u32 0))
      have HYF := Lib.hid ((HY8.out.keep (pay_keep w8 (w.heap.size + 1) (.slice (offA a6 c6 ah) (hi - ah) (c6 - ah)) (.slice none 0 0) (.int .u32 0) (.int .u32 0) (.int .u32 0)) (fun b hb e => by have := (HO6.out.ge b hb).1; omega)).mid ah hi hl (by have := HHI.out; omega))
      have HKF := Lib.hid (Keeps.below HK8.out (pay_keep w8 (w.heap.size + 1) (.slice (offA a6 c6 ah) (hi - ah) (c6 - ah)) (.slice none 0 0) (.int .u32 0) (.int .u32 0) (.int .u32 0)) HK8.out.size (fun k hk => by omega))
      clear p0 p1 p2 p3 p4 z0 z1 z2 z3 z4
      generalize ((((w8.setCell ⟨w.heap.size + 1, 0, none⟩ (.slice (offA a6 c6 ah) (hi - ah) (c6 - ah))).setCell ⟨w.heap.size + 1, 1, none⟩ (.slice none 0 0)).setCell ⟨w.heap.size + 1, 2, none⟩ (.int .u32 0)).setCell ⟨w.heap.size + 1, 3, none⟩ (.int .u32 0)).setCell ⟨w.heap.size + 1, 4, none⟩ (.int .u32 0) = w9 at *
      obtain ⟨⟨s0, s1, s2, s3, s4⟩, _⟩ := pay_cells HBF.out
      go_wp2_with fail
      (try simp only [Exit.inBlock, Exit.then])
      refine bodyPost_ret (by simp [results, Try.results23, go_sem, s0, s1, s2, s3, s4]; try rfl) rfl ?_
      exact ⟨_, _, rfl, HYF.out, fun b hb => (by have := (HO6.out.ge b ((offA_block _ _ _).symm.trans hb)).1; omega), HKF.out⟩))

end Go.Proofs.Ytcfljnlfikkhaaa
