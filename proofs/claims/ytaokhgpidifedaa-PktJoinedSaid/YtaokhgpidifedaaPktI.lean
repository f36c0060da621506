/- Write of the package qpkt, of any header; Write of the reference where it refuses. -/
import Derived.Test.YtaokhgpidifedaaPktH
namespace Go.Proofs.Ytaokhgpidifedaa
open Go.RowKit Go.Deep

theorem wrOK_of {lg : Bool} {ty ve : Int} {dx sx : List UInt8} {pn pl : Int} {ys : List UInt8} (h : hdOK lg ty pn pl dx.length sx.length = false ∨ 1200 < ys.length) : wrOK lg ty ve dx sx pn pl ys = false := by
  unfold wrOK
  rcases h with h | h
  · rw [h]; rfl
  · rw [decide_eq_false (show ¬ ys.length ≤ 1200 by omega)]; simp

theorem write_any (lg : Bool) (ty ve : Int) (da : Option Addr) (dn dc : Nat) (dx : List UInt8) (sa : Option Addr) (sn sc : Nat) (sx : List UInt8) (pn pl : Int) (a : Option Addr) (m cap : Nat) (ys : List UInt8) (w : World)
    (hdx : ∀ w', Below w.heap.size w w' → By w' da dn dc dx) (hsx : ∀ w', Below w.heap.size w w' → By w' sa sn sc sx) (hyx : ∀ w', Below w.heap.size w w' → By w' a m cap ys)
    (h0 : 0 ≤ pn) (h1 : pn ≤ 18446744073709551615) (v0 : 0 ≤ ve) (v1 : ve ≤ 4294967295) (hm : m ≤ 1000000000) :
    Calls Try.prog 9 #[HdV lg ty ve da dn dc sa sn sc pn pl, .slice a m cap] w fun e w' => ∃ a' n' c', e = .returned (.tuple #[.slice a' n' c', .int .i64 (wrE lg ty ve dx sx pn pl ys)]) ∧ Bo w.heap.size w' a' n' c' (wrX lg ty ve dx sx pn pl ys) ∧ Below w.heap.size w w' := by
  have e1 : dn = dx.length := (hdx w (Below.refl _ _)).1
  have e2 : sn = sx.length := (hsx w (Below.refl _ _)).1
  have e3 : m = ys.length := (hyx w (Below.refl _ _)).1
  subst e1; subst e2; subst e3
  by_cases hbad : hdOK lg ty pn pl dx.length sx.length = false ∨ 1200 < ys.length
  · obtain ⟨b1, b2⟩ := wr_bad (wrOK_of (ve := ve) hbad)
    refine (write_bad lg ty ve da dx.length dc sa sx.length sc pn pl a ys.length cap w h0 h1 hm hbad).mono ?_
    rintro e w' ⟨rfl, hk⟩
    rw [b1, b2]
    exact ⟨none, 0, 0, rfl, Bo.nil _ _, hk⟩
  · have hok : hdOK lg ty pn pl dx.length sx.length = true := by
      cases h : hdOK lg ty pn pl dx.length sx.length with
      | true => rfl
      | false => exact absurd (.inl h) hbad
    have hm2 : ys.length ≤ 1200 := by
      have : ¬ 1200 < ys.length := fun h => hbad (.inr h)
      omega
    have hP : ∃ P : Nat, pl = P := by
      have h := hok
      unfold hdOK pnOK at h
      simp only [Bool.and_eq_true, decide_eq_true_eq] at h
      exact ⟨pl.toNat, by have := h.1.1; omega⟩
    obtain ⟨P, rfl⟩ := hP
    cases lg with
    | true => exact write_long ty ve da dc dx sa sc sx pn P a ys.length cap ys w hdx hsx hyx h0 h1 v0 v1 hok hm2
    | false =>
      have h8 : dx.length = 8 := by
        have h := hok
        unfold hdOK at h
        simp only [Bool.and_eq_true, decide_eq_true_eq] at h
        simpa using h.2
      have h := write_short ty ve da dc dx sa sx.length sc sx pn P a ys.length cap ys w (fun w' hb => by have := hdx w' hb; rwa [h8] at this) rfl hyx h0 h1 (by rw [h8] at hok; exact hok) hm2
      rw [h8]
      exact h

set_option maxHeartbeats 3200000 in
theorem ref_bad (lg : Bool) (ty ve : Int) (da : Option Addr) (dn dc : Nat) (sa : Option Addr) (sn sc : Nat) (pn pl : Int) (a : Option Addr) (m cap : Nat) (w : World) (h0 : 0 ≤ pn) (h1 : pn ≤ 18446744073709551615) (hm : m ≤ 1000000000)
    (hbad : hdOK lg ty pn pl dn sn = false ∨ 1200 < m) :
    Calls Try.prog 6 #[HdV lg ty ve da dn dc sa sn sc pn pl, .slice a m cap] w fun e w' => e = .returned (.tuple #[.slice none 0 0, .int .i64 40]) ∧ Below w.heap.size w w' := by
  unfold HdV
  have HK := Lib.hid ((Below.refl w.heap.size w).alloc (Nat.le_refl _) (.cells #[.bool lg, .int .i64 ty, .int .u32 ve, .slice da dn dc, .slice sa sn sc, .int .u64 pn, .int .i64 pl] 29 (0, 0)))
  have HB := Lib.hid hbad
  clear hbad
  by_cases a1 : pl < 1
  · clear HB
    go_enter Try.func6, Try.ntmps6
    go_wp2_with fail
    go_returns
    exact ⟨rfl, HK.out⟩
  · by_cases a2 : 4 < pl
    · clear HB
      go_enter Try.func6, Try.ntmps6
      go_wp2_with fail
      go_returns
      exact ⟨rfl, HK.out⟩
    · rcases (show pl = 1 ∨ pl = 2 ∨ pl = 3 ∨ pl = 4 by omega) with rfl | rfl | rfl | rfl
      · by_cases hM : pn < 256
        · have q : (pn / 256 == 0) = true := by have h := shr_pn pn 1 h0; rw [decide_eq_true (show pn < 2 ^ (8 * 1) from hM)] at h; exact h
          have HO : Hid (pnOK pn 1 = true) := Lib.hid (by unfold pnOK; rw [decide_eq_true]; exact ⟨by decide, by decide, hM⟩)
          by_cases hmm : (1200 : Int) < (m : Int)
          · clear HB
            go_enter Try.func6, Try.ntmps6
            go_wp2_with fail
            go_returns
            exact ⟨rfl, HK.out⟩
          · cases lg with
            | false =>
              have q8 : ((dn : Int) == 8) = false := by
                rw [beq_eq_false_iff_ne]
                intro e
                rcases HB.out with h | h
                · unfold hdOK at h; rw [HO.out, decide_eq_true (show dn = 8 by omega)] at h; cases h
                · omega
              clear HB
              go_enter Try.func6, Try.ntmps6
              go_wp2_with fail
              go_returns
              exact ⟨rfl, HK.out⟩
            | true =>
              have hb : ¬ (0 ≤ ty ∧ ty ≤ 3 ∧ dn ≤ 20 ∧ sn ≤ 20) := by
                intro e
                rcases HB.out with h | h
                · unfold hdOK at h; rw [HO.out, if_pos rfl, decide_eq_true e] at h; cases h
                · omega
              clear HB
              by_cases g1 : ty < 0
              · clear hb
                go_enter Try.func6, Try.ntmps6
                go_wp2_with fail
                go_returns
                exact ⟨rfl, HK.out⟩
              · by_cases g2 : 3 < ty
                · clear hb
                  go_enter Try.func6, Try.ntmps6
                  go_wp2_with fail
                  go_returns
                  exact ⟨rfl, HK.out⟩
                · by_cases g3 : (20 : Int) < (dn : Int)
                  · clear hb
                    go_enter Try.func6, Try.ntmps6
                    go_wp2_with fail
                    go_returns
                    exact ⟨rfl, HK.out⟩
                  · have g4 : (20 : Int) < (sn : Int) := by omega
                    clear hb
                    go_enter Try.func6, Try.ntmps6
                    go_wp2_with fail
                    go_returns
                    exact ⟨rfl, HK.out⟩
        · have q : (pn / 256 == 0) = false := by have h := shr_pn pn 1 h0; rw [decide_eq_false (show ¬ pn < 2 ^ (8 * 1) from hM)] at h; exact h
          have q3 : ¬ (pn / 256 = 0) := fun e => by rw [e] at q; cases q
          have q2 : (pn / 256 != 0) = true := by rw [bne, q]; rfl
          clear hM HB
          go_enter Try.func6, Try.ntmps6
          go_wp2_with fail
          go_returns
          exact ⟨rfl, HK.out⟩
      · by_cases hM : pn < 65536
        · have q : (pn / 65536 == 0) = true := by have h := shr_pn pn 2 h0; rw [decide_eq_true (show pn < 2 ^ (8 * 2) from hM)] at h; exact h
          have HO : Hid (pnOK pn 2 = true) := Lib.hid (by unfold pnOK; rw [decide_eq_true]; exact ⟨by decide, by decide, hM⟩)
          by_cases hmm : (1200 : Int) < (m : Int)
          · clear HB
            go_enter Try.func6, Try.ntmps6
            go_wp2_with fail
            go_returns
            exact ⟨rfl, HK.out⟩
          · cases lg with
            | false =>
              have q8 : ((dn : Int) == 8) = false := by
                rw [beq_eq_false_iff_ne]
                intro e
                rcases HB.out with h | h
                · unfold hdOK at h; rw [HO.out, decide_eq_true (show dn = 8 by omega)] at h; cases h
                · omega
              clear HB
              go_enter Try.func6, Try.ntmps6
              go_wp2_with fail
              go_returns
              exact ⟨rfl, HK.out⟩
            | true =>
              have hb : ¬ (0 ≤ ty ∧ ty ≤ 3 ∧ dn ≤ 20 ∧ sn ≤ 20) := by
                intro e
                rcases HB.out with h | h
                · unfold hdOK at h; rw [HO.out, if_pos rfl, decide_eq_true e] at h; cases h
                · omega
              clear HB
              by_cases g1 : ty < 0
              · clear hb
                go_enter Try.func6, Try.ntmps6
                go_wp2_with fail
                go_returns
                exact ⟨rfl, HK.out⟩
              · by_cases g2 : 3 < ty
                · clear hb
                  go_enter Try.func6, Try.ntmps6
                  go_wp2_with fail
                  go_returns
                  exact ⟨rfl, HK.out⟩
                · by_cases g3 : (20 : Int) < (dn : Int)
                  · clear hb
                    go_enter Try.func6, Try.ntmps6
                    go_wp2_with fail
                    go_returns
                    exact ⟨rfl, HK.out⟩
                  · have g4 : (20 : Int) < (sn : Int) := by omega
                    clear hb
                    go_enter Try.func6, Try.ntmps6
                    go_wp2_with fail
                    go_returns
                    exact ⟨rfl, HK.out⟩
        · have q : (pn / 65536 == 0) = false := by have h := shr_pn pn 2 h0; rw [decide_eq_false (show ¬ pn < 2 ^ (8 * 2) from hM)] at h; exact h
          have q3 : ¬ (pn / 65536 = 0) := fun e => by rw [e] at q; cases q
          have q2 : (pn / 65536 != 0) = true := by rw [bne, q]; rfl
          clear hM HB
          go_enter Try.func6, Try.ntmps6
          go_wp2_with fail
          go_returns
          exact ⟨rfl, HK.out⟩
      · by_cases hM : pn < 16777216
        · have q : (pn / 16777216 == 0) = true := by have h := shr_pn pn 3 h0; rw [decide_eq_true (show pn < 2 ^ (8 * 3) from hM)] at h; exact h
          have HO : Hid (pnOK pn 3 = true) := Lib.hid (by unfold pnOK; rw [decide_eq_true]; exact ⟨by decide, by decide, hM⟩)
          by_cases hmm : (1200 : Int) < (m : Int)
          · clear HB
            go_enter Try.func6, Try.ntmps6
            go_wp2_with fail
            go_returns
            exact ⟨rfl, HK.out⟩
          · cases lg with
            | false =>
              have q8 : ((dn : Int) == 8) = false := by
                rw [beq_eq_false_iff_ne]
                intro e
                rcases HB.out with h | h
                · unfold hdOK at h; rw [HO.out, decide_eq_true (show dn = 8 by omega)] at h; cases h
                · omega
              clear HB
              go_enter Try.func6, Try.ntmps6
              go_wp2_with fail
              go_returns
              exact ⟨rfl, HK.out⟩
            | true =>
              have hb : ¬ (0 ≤ ty ∧ ty ≤ 3 ∧ dn ≤ 20 ∧ sn ≤ 20) := by
                intro e
                rcases HB.out with h | h
                · unfold hdOK at h; rw [HO.out, if_pos rfl, decide_eq_true e] at h; cases h
                · omega
              clear HB
              by_cases g1 : ty < 0
              · clear hb
                go_enter Try.func6, Try.ntmps6
                go_wp2_with fail
                go_returns
                exact ⟨rfl, HK.out⟩
              · by_cases g2 : 3 < ty
                · clear hb
                  go_enter Try.func6, Try.ntmps6
                  go_wp2_with fail
                  go_returns
                  exact ⟨rfl, HK.out⟩
                · by_cases g3 : (20 : Int) < (dn : Int)
                  · clear hb
                    go_enter Try.func6, Try.ntmps6
                    go_wp2_with fail
                    go_returns
                    exact ⟨rfl, HK.out⟩
                  · have g4 : (20 : Int) < (sn : Int) := by omega
                    clear hb
                    go_enter Try.func6, Try.ntmps6
                    go_wp2_with fail
                    go_returns
                    exact ⟨rfl, HK.out⟩
        · have q : (pn / 16777216 == 0) = false := by have h := shr_pn pn 3 h0; rw [decide_eq_false (show ¬ pn < 2 ^ (8 * 3) from hM)] at h; exact h
          have q3 : ¬ (pn / 16777216 = 0) := fun e => by rw [e] at q; cases q
          have q2 : (pn / 16777216 != 0) = true := by rw [bne, q]; rfl
          clear hM HB
          go_enter Try.func6, Try.ntmps6
          go_wp2_with fail
          go_returns
          exact ⟨rfl, HK.out⟩
      · by_cases hM : pn < 4294967296
        · have q : (pn / 4294967296 == 0) = true := by have h := shr_pn pn 4 h0; rw [decide_eq_true (show pn < 2 ^ (8 * 4) from hM)] at h; exact h
          have HO : Hid (pnOK pn 4 = true) := Lib.hid (by unfold pnOK; rw [decide_eq_true]; exact ⟨by decide, by decide, hM⟩)
          by_cases hmm : (1200 : Int) < (m : Int)
          · clear HB
            go_enter Try.func6, Try.ntmps6
            go_wp2_with fail
            go_returns
            exact ⟨rfl, HK.out⟩
          · cases lg with
            | false =>
              have q8 : ((dn : Int) == 8) = false := by
                rw [beq_eq_false_iff_ne]
                intro e
                rcases HB.out with h | h
                · unfold hdOK at h; rw [HO.out, decide_eq_true (show dn = 8 by omega)] at h; cases h
                · omega
              clear HB
              go_enter Try.func6, Try.ntmps6
              go_wp2_with fail
              go_returns
              exact ⟨rfl, HK.out⟩
            | true =>
              have hb : ¬ (0 ≤ ty ∧ ty ≤ 3 ∧ dn ≤ 20 ∧ sn ≤ 20) := by
                intro e
                rcases HB.out with h | h
                · unfold hdOK at h; rw [HO.out, if_pos rfl, decide_eq_true e] at h; cases h
                · omega
              clear HB
              by_cases g1 : ty < 0
              · clear hb
                go_enter Try.func6, Try.ntmps6
                go_wp2_with fail
                go_returns
                exact ⟨rfl, HK.out⟩
              · by_cases g2 : 3 < ty
                · clear hb
                  go_enter Try.func6, Try.ntmps6
                  go_wp2_with fail
                  go_returns
                  exact ⟨rfl, HK.out⟩
                · by_cases g3 : (20 : Int) < (dn : Int)
                  · clear hb
                    go_enter Try.func6, Try.ntmps6
                    go_wp2_with fail
                    go_returns
                    exact ⟨rfl, HK.out⟩
                  · have g4 : (20 : Int) < (sn : Int) := by omega
                    clear hb
                    go_enter Try.func6, Try.ntmps6
                    go_wp2_with fail
                    go_returns
                    exact ⟨rfl, HK.out⟩
        · have q : (pn / 4294967296 == 0) = false := by have h := shr_pn pn 4 h0; rw [decide_eq_false (show ¬ pn < 2 ^ (8 * 4) from hM)] at h; exact h
          have q3 : ¬ (pn / 4294967296 = 0) := fun e => by rw [e] at q; cases q
          have q2 : (pn / 4294967296 != 0) = true := by rw [bne, q]; rfl
          clear hM HB
          go_enter Try.func6, Try.ntmps6
          go_wp2_with fail
          go_returns
          exact ⟨rfl, HK.out⟩

end Go.Proofs.Ytaokhgpidifedaa
