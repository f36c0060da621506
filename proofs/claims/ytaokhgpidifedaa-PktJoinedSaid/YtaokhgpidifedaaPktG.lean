/- right of the package qpkt. -/
import Derived.Test.YtaokhgpidifedaaPktF
namespace Go.Proofs.Ytaokhgpidifedaa
open Go.RowKit Go.Deep

/-- A header as a value. -/
def HdV (lg : Bool) (ty ve : Int) (da : Option Addr) (dn dc : Nat) (sa : Option Addr) (sn sc : Nat) (pn pl : Int) : Value :=
  .agg #[.bool lg, .int .i64 ty, .int .u32 ve, .slice da dn dc, .slice sa sn sc, .int .u64 pn, .int .i64 pl]
def HdA (lg : Bool) (ty ve : Int) (da : Option Addr) (dn dc : Nat) (sa : Option Addr) (sn sc : Nat) (pn pl : Int) : Array Value :=
  #[.bool lg, .int .i64 ty, .int .u32 ve, .slice da dn dc, .slice sa sn sc, .int .u64 pn, .int .i64 pl]
/-- May a header be so? -/
def pnOK (pn pl : Int) : Bool := decide (1 ≤ pl ∧ pl ≤ 4 ∧ pn < 2 ^ (8 * pl.toNat))
def hdOK (lg : Bool) (ty pn pl : Int) (dn sn : Nat) : Bool := pnOK pn pl && (if lg then decide (0 ≤ ty ∧ ty ≤ 3 ∧ dn ≤ 20 ∧ sn ≤ 20) else decide (dn = 8))

theorem shr_pn (pn : Int) (P : Nat) (h0 : 0 ≤ pn) : ((pn / 2 ^ (8 * P) == 0) = decide (pn < 2 ^ (8 * P))) := by
  have hp : (0 : Int) < 2 ^ (8 * P) := Int.pow_pos (by decide)
  by_cases h : pn < 2 ^ (8 * P)
  · rw [decide_eq_true h, Int.ediv_eq_zero_of_lt h0 h]; rfl
  · rw [decide_eq_false h, beq_eq_false_iff_ne]
    intro e
    have h3 : (1 : Int) ≤ pn / 2 ^ (8 * P) := Int.le_ediv_of_mul_le hp (by omega)
    omega

set_option maxHeartbeats 1600000 in
theorem right_any (lg : Bool) (ty ve : Int) (da : Option Addr) (dn dc : Nat) (sa : Option Addr) (sn sc : Nat) (pn pl : Int) (w : World) (h0 : 0 ≤ pn) (h1 : pn ≤ 18446744073709551615) :
    Calls Try.prog 14 #[HdV lg ty ve da dn dc sa sn sc pn pl] w fun e w' => e = .returned (.bool (hdOK lg ty pn pl dn sn)) ∧ Below w.heap.size w w' := by
  unfold HdV
  have HK := Lib.hid ((Below.refl w.heap.size w).alloc (Nat.le_refl _) (.cells #[.bool lg, .int .i64 ty, .int .u32 ve, .slice da dn dc, .slice sa sn sc, .int .u64 pn, .int .i64 pl] 29 (0, 0)))
  by_cases a1 : pl < 1
  · have HE : Hid (hdOK lg ty pn pl dn sn = false) := Lib.hid (by unfold hdOK pnOK; rw [decide_eq_false (by omega)]; rfl)
    go_enter Try.func14, Try.ntmps14
    go_wp2_with fail
    go_returns
    exact ⟨by rw [HE.out]; rfl, HK.out⟩
  · by_cases a2 : 4 < pl
    · have HE : Hid (hdOK lg ty pn pl dn sn = false) := Lib.hid (by unfold hdOK pnOK; rw [decide_eq_false (by omega)]; rfl)
      go_enter Try.func14, Try.ntmps14
      go_wp2_with fail
      go_returns
      exact ⟨by rw [HE.out]; rfl, HK.out⟩
    · rcases (show pl = 1 ∨ pl = 2 ∨ pl = 3 ∨ pl = 4 by omega) with rfl | rfl | rfl | rfl
      · by_cases hM : pn < 256
        · have q : (pn / 256 == 0) = true := by have h := shr_pn pn 1 h0; rw [decide_eq_true (show pn < 2 ^ (8 * 1) from hM)] at h; exact h
          have HO : Hid (pnOK pn 1 = true) := Lib.hid (by unfold pnOK; rw [decide_eq_true]; exact ⟨by decide, by decide, hM⟩)
          cases lg with
          | false =>
            have HE0 : Hid (hdOK false ty pn 1 dn sn = decide (dn = 8)) := Lib.hid (by unfold hdOK; rw [HO.out]; rfl)
            by_cases h8 : dn = 8
            · have HE : Hid (hdOK false ty pn 1 dn sn = true) := Lib.hid (by rw [HE0.out, decide_eq_true h8])
              subst h8
              go_enter Try.func14, Try.ntmps14
              go_wp2_with fail
              go_returns
              exact ⟨by rw [HE.out]; rfl, HK.out⟩
            · have HE : Hid (hdOK false ty pn 1 dn sn = false) := Lib.hid (by rw [HE0.out, decide_eq_false h8])
              have q8 : ((dn : Int) == 8) = false := by rw [beq_eq_false_iff_ne]; omega
              clear h8
              go_enter Try.func14, Try.ntmps14
              go_wp2_with fail
              go_returns
              exact ⟨by rw [HE.out]; rfl, HK.out⟩
          | true =>
            have HE0 : Hid (hdOK true ty pn 1 dn sn = decide (0 ≤ ty ∧ ty ≤ 3 ∧ dn ≤ 20 ∧ sn ≤ 20)) := Lib.hid (by unfold hdOK; rw [HO.out]; rfl)
            by_cases g1 : 0 ≤ ty
            · by_cases g2 : ty ≤ 3
              · by_cases g3 : (dn : Int) ≤ 20
                · by_cases g4 : (sn : Int) ≤ 20
                  · have HE : Hid (hdOK true ty pn 1 dn sn = true) := Lib.hid (by rw [HE0.out, decide_eq_true]; omega)
                    go_enter Try.func14, Try.ntmps14
                    go_wp2_with fail
                    go_returns
                    exact ⟨by rw [HE.out]; rfl, HK.out⟩
                  · have HE : Hid (hdOK true ty pn 1 dn sn = false) := Lib.hid (by rw [HE0.out, decide_eq_false]; omega)
                    go_enter Try.func14, Try.ntmps14
                    go_wp2_with fail
                    go_returns
                    exact ⟨by rw [HE.out]; rfl, HK.out⟩
                · have HE : Hid (hdOK true ty pn 1 dn sn = false) := Lib.hid (by rw [HE0.out, decide_eq_false]; omega)
                  go_enter Try.func14, Try.ntmps14
                  go_wp2_with fail
                  go_returns
                  exact ⟨by rw [HE.out]; rfl, HK.out⟩
              · have HE : Hid (hdOK true ty pn 1 dn sn = false) := Lib.hid (by rw [HE0.out, decide_eq_false]; omega)
                go_enter Try.func14, Try.ntmps14
                go_wp2_with fail
                go_returns
                exact ⟨by rw [HE.out]; rfl, HK.out⟩
            · have HE : Hid (hdOK true ty pn 1 dn sn = false) := Lib.hid (by rw [HE0.out, decide_eq_false]; omega)
              go_enter Try.func14, Try.ntmps14
              go_wp2_with fail
              go_returns
              exact ⟨by rw [HE.out]; rfl, HK.out⟩
        · have q : (pn / 256 == 0) = false := by have h := shr_pn pn 1 h0; rw [decide_eq_false (show ¬ pn < 2 ^ (8 * 1) from hM)] at h; exact h
          have HE : Hid (hdOK lg ty pn 1 dn sn = false) := Lib.hid (by unfold hdOK pnOK; rw [decide_eq_false (fun h => hM h.2.2)]; rfl)
          clear hM
          go_enter Try.func14, Try.ntmps14
          go_wp2_with fail
          go_returns
          exact ⟨by rw [HE.out]; rfl, HK.out⟩
      · by_cases hM : pn < 65536
        · have q : (pn / 65536 == 0) = true := by have h := shr_pn pn 2 h0; rw [decide_eq_true (show pn < 2 ^ (8 * 2) from hM)] at h; exact h
          have HO : Hid (pnOK pn 2 = true) := Lib.hid (by unfold pnOK; rw [decide_eq_true]; exact ⟨by decide, by decide, hM⟩)
          cases lg with
          | false =>
            have HE0 : Hid (hdOK false ty pn 2 dn sn = decide (dn = 8)) := Lib.hid (by unfold hdOK; rw [HO.out]; rfl)
            by_cases h8 : dn = 8
            · have HE : Hid (hdOK false ty pn 2 dn sn = true) := Lib.hid (by rw [HE0.out, decide_eq_true h8])
              subst h8
              go_enter Try.func14, Try.ntmps14
              go_wp2_with fail
              go_returns
              exact ⟨by rw [HE.out]; rfl, HK.out⟩
            · have HE : Hid (hdOK false ty pn 2 dn sn = false) := Lib.hid (by rw [HE0.out, decide_eq_false h8])
              have q8 : ((dn : Int) == 8) = false := by rw [beq_eq_false_iff_ne]; omega
              clear h8
              go_enter Try.func14, Try.ntmps14
              go_wp2_with fail
              go_returns
              exact ⟨by rw [HE.out]; rfl, HK.out⟩
          | true =>
            have HE0 : Hid (hdOK true ty pn 2 dn sn = decide (0 ≤ ty ∧ ty ≤ 3 ∧ dn ≤ 20 ∧ sn ≤ 20)) := Lib.hid (by unfold hdOK; rw [HO.out]; rfl)
            by_cases g1 : 0 ≤ ty
            · by_cases g2 : ty ≤ 3
              · by_cases g3 : (dn : Int) ≤ 20
                · by_cases g4 : (sn : Int) ≤ 20
                  · have HE : Hid (hdOK true ty pn 2 dn sn = true) := Lib.hid (by rw [HE0.out, decide_eq_true]; omega)
                    go_enter Try.func14, Try.ntmps14
                    go_wp2_with fail
                    go_returns
                    exact ⟨by rw [HE.out]; rfl, HK.out⟩
                  · have HE : Hid (hdOK true ty pn 2 dn sn = false) := Lib.hid (by rw [HE0.out, decide_eq_false]; omega)
                    go_enter Try.func14, Try.ntmps14
                    go_wp2_with fail
                    go_returns
                    exact ⟨by rw [HE.out]; rfl, HK.out⟩
                · have HE : Hid (hdOK true ty pn 2 dn sn = false) := Lib.hid (by rw [HE0.out, decide_eq_false]; omega)
                  go_enter Try.func14, Try.ntmps14
                  go_wp2_with fail
                  go_returns
                  exact ⟨by rw [HE.out]; rfl, HK.out⟩
              · have HE : Hid (hdOK true ty pn 2 dn sn = false) := Lib.hid (by rw [HE0.out, decide_eq_false]; omega)
                go_enter Try.func14, Try.ntmps14
                go_wp2_with fail
                go_returns
                exact ⟨by rw [HE.out]; rfl, HK.out⟩
            · have HE : Hid (hdOK true ty pn 2 dn sn = false) := Lib.hid (by rw [HE0.out, decide_eq_false]; omega)
              go_enter Try.func14, Try.ntmps14
              go_wp2_with fail
              go_returns
              exact ⟨by rw [HE.out]; rfl, HK.out⟩
        · have q : (pn / 65536 == 0) = false := by have h := shr_pn pn 2 h0; rw [decide_eq_false (show ¬ pn < 2 ^ (8 * 2) from hM)] at h; exact h
          have HE : Hid (hdOK lg ty pn 2 dn sn = false) := Lib.hid (by unfold hdOK pnOK; rw [decide_eq_false (fun h => hM h.2.2)]; rfl)
          clear hM
          go_enter Try.func14, Try.ntmps14
          go_wp2_with fail
          go_returns
          exact ⟨by rw [HE.out]; rfl, HK.out⟩
      · by_cases hM : pn < 16777216
        · have q : (pn / 16777216 == 0) = true := by have h := shr_pn pn 3 h0; rw [decide_eq_true (show pn < 2 ^ (8 * 3) from hM)] at h; exact h
          have HO : Hid (pnOK pn 3 = true) := Lib.hid (by unfold pnOK; rw [decide_eq_true]; exact ⟨by decide, by decide, hM⟩)
          cases lg with
          | false =>
            have HE0 : Hid (hdOK false ty pn 3 dn sn = decide (dn = 8)) := Lib.hid (by unfold hdOK; rw [HO.out]; rfl)
            by_cases h8 : dn = 8
            · have HE : Hid (hdOK false ty pn 3 dn sn = true) := Lib.hid (by rw [HE0.out, decide_eq_true h8])
              subst h8
              go_enter Try.func14, Try.ntmps14
              go_wp2_with fail
              go_returns
              exact ⟨by rw [HE.out]; rfl, HK.out⟩
            · have HE : Hid (hdOK false ty pn 3 dn sn = false) := Lib.hid (by rw [HE0.out, decide_eq_false h8])
              have q8 : ((dn : Int) == 8) = false := by rw [beq_eq_false_iff_ne]; omega
              clear h8
              go_enter Try.func14, Try.ntmps14
              go_wp2_with fail
              go_returns
              exact ⟨by rw [HE.out]; rfl, HK.out⟩
          | true =>
            have HE0 : Hid (hdOK true ty pn 3 dn sn = decide (0 ≤ ty ∧ ty ≤ 3 ∧ dn ≤ 20 ∧ sn ≤ 20)) := Lib.hid (by unfold hdOK; rw [HO.out]; rfl)
            by_cases g1 : 0 ≤ ty
            · by_cases g2 : ty ≤ 3
              · by_cases g3 : (dn : Int) ≤ 20
                · by_cases g4 : (sn : Int) ≤ 20
                  · have HE : Hid (hdOK true ty pn 3 dn sn = true) := Lib.hid (by rw [HE0.out, decide_eq_true]; omega)
                    go_enter Try.func14, Try.ntmps14
                    go_wp2_with fail
                    go_returns
                    exact ⟨by rw [HE.out]; rfl, HK.out⟩
                  · have HE : Hid (hdOK true ty pn 3 dn sn = false) := Lib.hid (by rw [HE0.out, decide_eq_false]; omega)
                    go_enter Try.func14, Try.ntmps14
                    go_wp2_with fail
                    go_returns
                    exact ⟨by rw [HE.out]; rfl, HK.out⟩
                · have HE : Hid (hdOK true ty pn 3 dn sn = false) := Lib.hid (by rw [HE0.out, decide_eq_false]; omega)
                  go_enter Try.func14, Try.ntmps14
                  go_wp2_with fail
                  go_returns
                  exact ⟨by rw [HE.out]; rfl, HK.out⟩
              · have HE : Hid (hdOK true ty pn 3 dn sn = false) := Lib.hid (by rw [HE0.out, decide_eq_false]; omega)
                go_enter Try.func14, Try.ntmps14
                go_wp2_with fail
                go_returns
                exact ⟨by rw [HE.out]; rfl, HK.out⟩
            · have HE : Hid (hdOK true ty pn 3 dn sn = false) := Lib.hid (by rw [HE0.out, decide_eq_false]; omega)
              go_enter Try.func14, Try.ntmps14
              go_wp2_with fail
              go_returns
              exact ⟨by rw [HE.out]; rfl, HK.out⟩
        · have q : (pn / 16777216 == 0) = false := by have h := shr_pn pn 3 h0; rw [decide_eq_false (show ¬ pn < 2 ^ (8 * 3) from hM)] at h; exact h
          have HE : Hid (hdOK lg ty pn 3 dn sn = false) := Lib.hid (by unfold hdOK pnOK; rw [decide_eq_false (fun h => hM h.2.2)]; rfl)
          clear hM
          go_enter Try.func14, Try.ntmps14
          go_wp2_with fail
          go_returns
          exact ⟨by rw [HE.out]; rfl, HK.out⟩
      · by_cases hM : pn < 4294967296
        · have q : (pn / 4294967296 == 0) = true := by have h := shr_pn pn 4 h0; rw [decide_eq_true (show pn < 2 ^ (8 * 4) from hM)] at h; exact h
          have HO : Hid (pnOK pn 4 = true) := Lib.hid (by unfold pnOK; rw [decide_eq_true]; exact ⟨by decide, by decide, hM⟩)
          cases lg with
          | false =>
            have HE0 : Hid (hdOK false ty pn 4 dn sn = decide (dn = 8)) := Lib.hid (by unfold hdOK; rw [HO.out]; rfl)
            by_cases h8 : dn = 8
            · have HE : Hid (hdOK false ty pn 4 dn sn = true) := Lib.hid (by rw [HE0.out, decide_eq_true h8])
              subst h8
              go_enter Try.func14, Try.ntmps14
              go_wp2_with fail
              go_returns
              exact ⟨by rw [HE.out]; rfl, HK.out⟩
            · have HE : Hid (hdOK false ty pn 4 dn sn = false) := Lib.hid (by rw [HE0.out, decide_eq_false h8])
              have q8 : ((dn : Int) == 8) = false := by rw [beq_eq_false_iff_ne]; omega
              clear h8
              go_enter Try.func14, Try.ntmps14
              go_wp2_with fail
              go_returns
              exact ⟨by rw [HE.out]; rfl, HK.out⟩
          | true =>
            have HE0 : Hid (hdOK true ty pn 4 dn sn = decide (0 ≤ ty ∧ ty ≤ 3 ∧ dn ≤ 20 ∧ sn ≤ 20)) := Lib.hid (by unfold hdOK; rw [HO.out]; rfl)
            by_cases g1 : 0 ≤ ty
            · by_cases g2 : ty ≤ 3
              · by_cases g3 : (dn : Int) ≤ 20
                · by_cases g4 : (sn : Int) ≤ 20
                  · have HE : Hid (hdOK true ty pn 4 dn sn = true) := Lib.hid (by rw [HE0.out, decide_eq_true]; omega)
                    go_enter Try.func14, Try.ntmps14
                    go_wp2_with fail
                    go_returns
                    exact ⟨by rw [HE.out]; rfl, HK.out⟩
                  · have HE : Hid (hdOK true ty pn 4 dn sn = false) := Lib.hid (by rw [HE0.out, decide_eq_false]; omega)
                    go_enter Try.func14, Try.ntmps14
                    go_wp2_with fail
                    go_returns
                    exact ⟨by rw [HE.out]; rfl, HK.out⟩
                · have HE : Hid (hdOK true ty pn 4 dn sn = false) := Lib.hid (by rw [HE0.out, decide_eq_false]; omega)
                  go_enter Try.func14, Try.ntmps14
                  go_wp2_with fail
                  go_returns
                  exact ⟨by rw [HE.out]; rfl, HK.out⟩
              · have HE : Hid (hdOK true ty pn 4 dn sn = false) := Lib.hid (by rw [HE0.out, decide_eq_false]; omega)
                go_enter Try.func14, Try.ntmps14
                go_wp2_with fail
                go_returns
                exact ⟨by rw [HE.out]; rfl, HK.out⟩
            · have HE : Hid (hdOK true ty pn 4 dn sn = false) := Lib.hid (by rw [HE0.out, decide_eq_false]; omega)
              go_enter Try.func14, Try.ntmps14
              go_wp2_with fail
              go_returns
              exact ⟨by rw [HE.out]; rfl, HK.out⟩
        · have q : (pn / 4294967296 == 0) = false := by have h := shr_pn pn 4 h0; rw [decide_eq_false (show ¬ pn < 2 ^ (8 * 4) from hM)] at h; exact h
          have HE : Hid (hdOK lg ty pn 4 dn sn = false) := Lib.hid (by unfold hdOK pnOK; rw [decide_eq_false (fun h => hM h.2.2)]; rfl)
          clear hM
          go_enter Try.func14, Try.ntmps14
          go_wp2_with fail
          go_returns
          exact ⟨by rw [HE.out]; rfl, HK.out⟩

end Go.Proofs.Ytaokhgpidifedaa
