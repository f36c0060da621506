/- What the functions of the packages cong and bifoldref21 compute, said of one record of numbers. -/
import Derived.Test.YtnegiagooahncaaW
namespace Go.Proofs.Ytnegiagooahncaa
open Go.RowKit

structure CG where
  s : Int
  W : Int
  T : Int
  G : Int
  R : Bool
  S : Int
  deriving DecidableEq

def cgCells (s W T G : Int) (R : Bool) (S : Int) : Array Value := #[.int .i64 s, .int .i64 W, .int .i64 T, .int .i64 G, .bool R, .int .u64 S]

def CG.cells (c : CG) : Array Value := #[.int .i64 c.s, .int .i64 c.W, .int .i64 c.T, .int .i64 c.G, .bool c.R, .int .u64 c.S]

def CG.ok (c : CG) : Prop := 1 ≤ c.s ∧ c.s ≤ 1200 ∧ 2 * c.s ≤ c.W ∧ c.W ≤ 1073741824 ∧ 0 ≤ c.G ∧ c.G ≤ 1073741824 ∧ 0 ≤ c.S ∧ c.S < 18446744073709551616

instance (c : CG) : Decidable c.ok := by unfold CG.ok; infer_instance

def cgNew (n : Int) : CG := ⟨if n < 1 ∨ 1200 < n then 1200 else n, 10 * (if n < 1 ∨ 1200 < n then 1200 else n), 1073741824, 0, false, 0⟩

theorem cgNew_ok (n : Int) : (cgNew n).ok := by
  unfold cgNew CG.ok
  simp only
  split <;> omega

theorem cells_of {w : World} {b : Nat} {c : CG} {t : TypeId} (h : Blk w b c.cells t) :
    (w.cell? ⟨b, 0, none⟩ = some (.int .i64 c.s) ∧ w.cell? ⟨b, 1, none⟩ = some (.int .i64 c.W) ∧ w.cell? ⟨b, 2, none⟩ = some (.int .i64 c.T) ∧ w.cell? ⟨b, 3, none⟩ = some (.int .i64 c.G) ∧
    w.cell? ⟨b, 4, none⟩ = some (.bool c.R) ∧ w.cell? ⟨b, 5, none⟩ = some (.int .u64 c.S)) ∧ (∀ i, w.frozen? ⟨b, i, none⟩ = false) :=
  ⟨⟨by rw [h.cell]; rfl, by rw [h.cell]; rfl, by rw [h.cell]; rfl, by rw [h.cell]; rfl, by rw [h.cell]; rfl, by rw [h.cell]; rfl⟩, fun i => h.free i⟩

theorem cells_of' {w : World} {b : Nat} {s W T G : Int} {R : Bool} {S : Int} {t : TypeId} (h : Blk w b (cgCells s W T G R S) t) :
    (w.cell? ⟨b, 0, none⟩ = some (.int .i64 s) ∧ w.cell? ⟨b, 1, none⟩ = some (.int .i64 W) ∧ w.cell? ⟨b, 2, none⟩ = some (.int .i64 T) ∧ w.cell? ⟨b, 3, none⟩ = some (.int .i64 G) ∧
    w.cell? ⟨b, 4, none⟩ = some (.bool R) ∧ w.cell? ⟨b, 5, none⟩ = some (.int .u64 S)) ∧ (∀ i, w.frozen? ⟨b, i, none⟩ = false) :=
  ⟨⟨by rw [h.cell]; rfl, by rw [h.cell]; rfl, by rw [h.cell]; rfl, by rw [h.cell]; rfl, by rw [h.cell]; rfl, by rw [h.cell]; rfl⟩, fun i => h.free i⟩

set_option maxHeartbeats 400000 in
theorem new_any (n : Int) (w : World) (h0 : -9223372036854775808 ≤ n) (h1 : n ≤ 9223372036854775807) :
    Calls Try.prog 11 #[.int .i64 n] w fun e w' => e = .returned (.pointer (some ⟨w.heap.size, 0, none⟩)) ∧ w' = w.alloc (.cells (cgNew n).cells 47 (0, 0)) := by
  by_cases h : n < 1
  · go_enter Try.func11, Try.ntmps11
    go_wp2
    go_ret
    exact ⟨rfl, by simp [cgNew, CG.cells, h]⟩
  · by_cases h' : 1200 < n
    · go_enter Try.func11, Try.ntmps11
      go_wp2
      go_ret
      exact ⟨rfl, by simp [cgNew, CG.cells, h']⟩
    · go_enter Try.func11, Try.ntmps11
      go_wp2
      go_ret
      exact ⟨rfl, by simp [cgNew, CG.cells, show ¬ n < 1 by omega, show ¬ 1200 < n by omega]⟩

set_option maxHeartbeats 400000 in
theorem newr_any (n : Int) (w : World) (h0 : -9223372036854775808 ≤ n) (h1 : n ≤ 9223372036854775807) :
    Calls Try.prog 15 #[.int .i64 n] w fun e w' => e = .returned (.pointer (some ⟨w.heap.size, 0, none⟩)) ∧ w' = w.alloc (.cells (cgNew n).cells 40 (0, 0)) := by
  by_cases h : n < 1
  · go_enter Try.func15, Try.ntmps15
    go_wp2
    go_ret
    exact ⟨rfl, by simp [cgNew, CG.cells, h]⟩
  · by_cases h' : 1200 < n
    · go_enter Try.func15, Try.ntmps15
      go_wp2
      go_ret
      exact ⟨rfl, by simp [cgNew, CG.cells, h']⟩
    · go_enter Try.func15, Try.ntmps15
      go_wp2
      go_ret
      exact ⟨rfl, by simp [cgNew, CG.cells, show ¬ n < 1 by omega, show ¬ 1200 < n by omega]⟩

set_option maxHeartbeats 400000 in
theorem window_any (b : Nat) (c : CG) (w : World) (hb : Blk w b c.cells 47) :
    Calls Try.prog 13 #[.pointer (some ⟨b, 0, none⟩)] w fun e w' => e = .returned (.int .i64 c.W) ∧ w = w' := by
  obtain ⟨⟨_, h1, _, _, _, _⟩, _⟩ := cells_of hb
  clear hb
  go_enter Try.func13, Try.ntmps13
  go_wp2
  go_ret
  exact ⟨rfl, rfl⟩

def CG.early (c : CG) (a : Int) : Bool := c.R && decide (a ≤ c.S)

set_option maxHeartbeats 400000 in
theorem early_any (b : Nat) (c : CG) (a : Int) (w : World) (hb : Blk w b c.cells 47) :
    Calls Try.prog 22 #[.pointer (some ⟨b, 0, none⟩), .int .u64 a] w fun e w' => e = .returned (.bool (c.early a)) ∧ w = w' := by
  obtain ⟨⟨_, _, _, _, h4, h5⟩, _⟩ := cells_of hb
  clear hb
  cases hR : c.R
  · rw [hR] at h4
    go_enter Try.func22, Try.ntmps22
    go_wp2
    go_ret
    exact ⟨by simp [CG.early, hR], rfl⟩
  · rw [hR] at h4
    go_enter Try.func22, Try.ntmps22
    go_wp2
    go_ret
    exact ⟨by simp [CG.early, hR], rfl⟩

end Go.Proofs.Ytnegiagooahncaa
