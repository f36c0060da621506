/- The ends of the values. -/
import Derived.Test.YtabdoikfcaiobaaParQ
namespace Go.Proofs.Ytabdoikfcaiobaa
open Go.RowKit Go.Deep Go.Maps

theorem pn_varE (v : Int) (h0 : 0 ≤ v) (h1 : v ≤ 4611686018427387903) : pnB (varE v) = true ∧ pnV (varE v) = v := by
  obtain ⟨a1, a2, a3⟩ := rv_varE v h0 h1 []
  rw [List.append_nil] at a1 a2 a3
  have hl := varE_length v (by rcases varLenV_cases v with h | h | h | h | h <;> omega)
  have hb : pnB (varE v) = true := by
    unfold pnB
    rw [a3, a2, hl]
    simp
  exact ⟨hb, by unfold pnV; rw [if_pos hb, a1]⟩

def idE (i : Nat) : Int := [3, 8, 9, 10, 11, 14].getD i 0
def endE (i : Nat) : Int := [1200, 1152921504606846976, 1152921504606846976, 20, 16383, 2].getD i 0
theorem idE_end {i : Nat} (h : i < 6) : endId (idE i) := by
  rcases (show i = 0 ∨ i = 1 ∨ i = 2 ∨ i = 3 ∨ i = 4 ∨ i = 5 by omega) with rfl | rfl | rfl | rfl | rfl | rfl <;> simp [endId, idE]
theorem idE_bd {i : Nat} (h : i < 6) : 0 ≤ idE i ∧ idE i ≤ 100 := by
  rcases (show i = 0 ∨ i = 1 ∨ i = 2 ∨ i = 3 ∨ i = 4 ∨ i = 5 by omega) with rfl | rfl | rfl | rfl | rfl | rfl <;> simp [idE]
theorem endE_bd {i : Nat} (h : i < 6) : 2 ≤ endE i ∧ endE i ≤ 1152921504606846976 := by
  rcases (show i = 0 ∨ i = 1 ∨ i = 2 ∨ i = 3 ∨ i = 4 ∨ i = 5 by omega) with rfl | rfl | rfl | rfl | rfl | rfl <;> simp [endE]
/-- May a number be so far from its end? -/
def okE (i : Nat) (r : Int) : Bool := if i = 0 ∨ i = 5 then decide (0 ≤ r) else decide (r ≤ 0)
theorem end_law {i : Nat} (hi : i < 6) (r : Int) (hr : -1 ≤ r ∧ r ≤ 1) (a : Option Addr) (n c : Nat) :
    (checkI [⟨idE i, a, n, c, varE (endE i + r)⟩] true == 0) = okE i r := by
  have hb := endE_bd hi
  obtain ⟨p1, p2⟩ := pn_varE (endE i + r) (by omega) (by omega)
  unfold checkI
  have e : ([⟨idE i, a, n, c, varE (endE i + r)⟩] : List Fr).all (fun f => rightB f.t f.xs true) = rightB (idE i) (varE (endE i + r)) true := by simp
  rw [e, endId_right (idE_end hi), p1, p2]
  rcases (show i = 0 ∨ i = 1 ∨ i = 2 ∨ i = 3 ∨ i = 4 ∨ i = 5 by omega) with rfl | rfl | rfl | rfl | rfl | rfl
  all_goals
    rcases (show r = -1 ∨ r = 0 ∨ r = 1 by omega) with rfl | rfl | rfl <;> decide +kernel

theorem tmod2 (x : Int) : ∃ r : Int, x.tmod 2 = r ∧ -1 ≤ r ∧ r ≤ 1 := by
  have h1 := Int.tmod_lt_of_pos x (show (0 : Int) < 2 by decide)
  have h2 : -2 < x.tmod 2 := by
    have := Int.lt_tmod_of_pos x (show (0 : Int) < 2 by decide)
    omega
  exact ⟨_, rfl, by omega, by omega⟩
theorem tabI {i : Nat} (h : i < 6) : (#[.int .u64 3, .int .u64 8, .int .u64 9, .int .u64 10, .int .u64 11, .int .u64 14] : Array Value)[i]? = some (.int .u64 (idE i)) := by
  rcases (show i = 0 ∨ i = 1 ∨ i = 2 ∨ i = 3 ∨ i = 4 ∨ i = 5 by omega) with rfl | rfl | rfl | rfl | rfl | rfl <;> rfl
theorem tabE {i : Nat} (h : i < 6) : (#[.int .u64 1200, .int .u64 1152921504606846976, .int .u64 1152921504606846976, .int .u64 20, .int .u64 16383, .int .u64 2] : Array Value)[i]? = some (.int .u64 (endE i)) := by
  rcases (show i = 0 ∨ i = 1 ∨ i = 2 ∨ i = 3 ∨ i = 4 ∨ i = 5 by omega) with rfl | rfl | rfl | rfl | rfl | rfl <;> rfl
theorem wrap_m1 {x : Int} (h0 : 2 ≤ x) (h1 : x ≤ 1152921504606846976) : IntKind.u64.wrap (x + IntKind.u64.wrap (-1)) = x + -1 := by
  have e : IntKind.u64.wrap (-1) = 18446744073709551615 := by decide +kernel
  rw [e]
  simp [IntKind.wrap, IntKind.bits, IntKind.signed]
  omega

end Go.Proofs.Ytabdoikfcaiobaa
