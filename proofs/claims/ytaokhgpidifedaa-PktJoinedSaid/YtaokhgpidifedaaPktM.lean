/- How long a packet may be: plain laws. -/
import Derived.Test.YtaokhgpidifedaaPktL
namespace Go.Proofs.Ytaokhgpidifedaa
open Go.RowKit Go.Deep

theorem wrE_eq (lg : Bool) (ty ve : Int) (dx sx : List UInt8) (pn pl : Int) (ys : List UInt8) : (wrE lg ty ve dx sx pn pl ys == 0) = wrOK lg ty ve dx sx pn pl ys := by
  unfold wrE; cases wrOK lg ty ve dx sx pn pl ys <;> rfl
theorem wrX_le (lg : Bool) (ty ve : Int) (dx sx : List UInt8) (pn pl : Int) (ys : List UInt8) : (wrX lg ty ve dx sx pn pl ys).length ≤ 1200 := by
  unfold wrX
  cases h : wrOK lg ty ve dx sx pn pl ys with
  | false => simp
  | true =>
    rw [if_pos rfl]
    unfold wrOK at h
    simp only [Bool.and_eq_true, decide_eq_true_eq] at h
    exact h.2

theorem hdOK_pl {lg : Bool} {ty pn pl : Int} {dn sn : Nat} (h : hdOK lg ty pn pl dn sn = true) : 1 ≤ pl ∧ pl ≤ 4 := by
  unfold hdOK pnOK at h
  simp only [Bool.and_eq_true, decide_eq_true_eq] at h
  exact ⟨h.1.1, h.1.2.1⟩

theorem wrOK_small (lg : Bool) (ty ve : Int) (dx : List UInt8) (pn pl : Int) (hd : dx.length ≤ 30) : wrOK lg ty ve dx [] pn pl [] = hdOK lg ty pn pl dx.length 0 := by
  cases h : hdOK lg ty pn pl dx.length 0 with
  | false => unfold wrOK; rw [List.length_nil, h]; rfl
  | true =>
    have hp := hdOK_pl h
    unfold wrOK
    rw [List.length_nil, h, decide_eq_true (show 0 ≤ 1200 by omega), decide_eq_true]
    · rfl
    · cases lg with
      | true =>
        show (pktL ty ve dx [] pn pl.toNat []).length ≤ 1200
        have hv := varE_le8 ((pl.toNat : Int) + 0) (by omega)
        simp [pktL, bigD_length]
        simp at hv
        omega
      | false =>
        show (pktS dx pn pl.toNat []).length ≤ 1200
        simp [pktS, bigD_length]
        omega

theorem varE_two (v : Int) (h0 : 64 ≤ v) (h1 : v < 16384) : (varE v).length = 2 := by
  rw [varE_2 v h0 h1]; rfl

theorem great0 (lg : Bool) (m : Nat) (h0 : 64 ≤ m) (h1 : m ≤ 1200) : wrOK lg 0 0 (List.replicate 8 0) [] 0 1 (List.replicate m 0) = decide ((if lg then 18 else 10) + m ≤ 1200) := by
  have h : hdOK lg 0 0 1 (List.replicate 8 (0 : UInt8)).length ([] : List UInt8).length = true := by cases lg <;> decide +kernel
  unfold wrOK
  rw [h, List.length_replicate, decide_eq_true h1, Bool.true_and, Bool.true_and]
  congr 1
  cases lg with
  | true =>
    show ((pktL 0 0 (List.replicate 8 0) [] 0 1 (List.replicate m 0)).length ≤ 1200) = _
    have hv := varE_two ((1 : Int) + m) (by omega) (by omega)
    simp [pktL, bigD_length, hv]
    omega
  | false =>
    show ((pktS (List.replicate 8 0) 0 1 (List.replicate m 0)).length ≤ 1200) = _
    simp [pktS, bigD_length]
    omega
theorem great1 (lg : Bool) (k : Nat) (h0 : 18 ≤ k) (h1 : k ≤ 22) : wrOK lg 0 0 (List.replicate k 0) [] 0 1 [] = (decide (k ≤ 20) && lg) := by
  rw [wrOK_small _ _ _ _ _ _ (by simp; omega), List.length_replicate]
  unfold hdOK pnOK
  rw [decide_eq_true (show (1 : Int) ≤ 1 ∧ (1 : Int) ≤ 4 ∧ (0 : Int) < 2 ^ (8 * (1 : Int).toNat) by decide)]
  cases lg with
  | true => simp
  | false => simp; omega
theorem great2 (lg : Bool) (k : Nat) (h0 : 2 ≤ k) (h1 : k ≤ 6) : wrOK lg 0 0 (List.replicate 8 0) [] 0 (k : Int) [] = decide (k ≤ 4) := by
  rw [wrOK_small _ _ _ _ _ _ (by simp), List.length_replicate]
  rcases (show k = 2 ∨ k = 3 ∨ k = 4 ∨ k = 5 ∨ k = 6 by omega) with rfl | rfl | rfl | rfl | rfl <;> cases lg <;> decide +kernel
theorem great3 (lg : Bool) (v : Int) (h0 : 65533 ≤ v) (h1 : v ≤ 65537) : wrOK lg 0 0 (List.replicate 8 0) [] v 2 [] = decide (v ≤ 65535) := by
  rw [wrOK_small _ _ _ _ _ _ (by simp), List.length_replicate]
  rcases (show v = 65533 ∨ v = 65534 ∨ v = 65535 ∨ v = 65536 ∨ v = 65537 by omega) with rfl | rfl | rfl | rfl | rfl <;> cases lg <;> decide +kernel

end Go.Proofs.Ytaokhgpidifedaa
