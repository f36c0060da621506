/- intId, Check of the package bifoldref17, at one parameter with a number's end. -/
import Derived.Test.YtabdoikfcaiobaaParN
namespace Go.Proofs.Ytabdoikfcaiobaa
open Go.RowKit Go.Deep Go.Maps

def endId (t : Int) : Prop := t = 3 ∨ t = 8 ∨ t = 9 ∨ t = 10 ∨ t = 11 ∨ t = 14
set_option maxHeartbeats 800000 in
theorem intid_any (t : Int) (ht : endId t) (w : World) :
    Calls Try.prog 23 #[.int .u64 t] w fun e w' => e = .returned (.bool true) ∧ w = w' := by
  rcases ht with rfl | rfl | rfl | rfl | rfl | rfl
  all_goals
    go_enter Try.func23, Try.ntmps23
    go_wp2_with fail
    go_returns
    exact ⟨rfl, rfl⟩

theorem endId_right {t : Int} (ht : endId t) (xs : List UInt8) : rightB t xs true = (pnB xs && (if t = 3 then decide (1200 ≤ pnV xs) else if t = 8 ∨ t = 9 then decide (pnV xs ≤ 1152921504606846976) else if t = 10 then decide (pnV xs ≤ 20) else if t = 11 then decide (pnV xs < 16384) else decide (2 ≤ pnV xs))) := by
  rcases ht with rfl | rfl | rfl | rfl | rfl | rfl <;> simp [rightB]

set_option maxRecDepth 100000 in
set_option maxHeartbeats 3200000 in
theorem rcheck_one (a : Option Addr) (cap : Nat) (f : Fr) (ht : endId f.t) (w : World) (hv : ∀ w', Below w.heap.size w w' → Hv w' a 1 cap [f]) :
    Calls Try.prog 15 #[.slice a 1 cap, .bool true] w fun e w' => e = .returned (.int .i64 (checkI [f] true)) ∧ Below w.heap.size w w' := by
  obtain ⟨t, a1, n1, d1, xs⟩ := f
  dsimp only at ht
  have hv0 := hv w (Below.refl _ _)
  have hcap := hv0.2.1.le
  have hmax := hv0.2.1.max
  unfold maxLen at hmax
  have HV := Lib.hid hv
  obtain ⟨bb, oo, rfl, hbb, hcell⟩ := hv0.get (by omega)
  obtain ⟨p1, p2⟩ := hcell 0 (by simp)
  have HT := Lib.hid ht
  have HI : Hid (intV [⟨t, a1, n1, d1, xs⟩] t = (pnV xs, pnB xs)) := Lib.hid (by
    unfold intV intO
    cases hp : pnB xs with
    | true => simp [hp]
    | false => simp [hp, pnV])
  have HC : Hid (checkI [⟨t, a1, n1, d1, xs⟩] true = if rightB t xs true then 0 else 41) := Lib.hid (by unfold checkI; simp)
  have HR := Lib.hid (endId_right ht xs)
  clear hcell hv hv0
  simp only [List.getElem_cons_zero, Nat.mul_zero, Nat.add_zero, Nat.zero_mul] at p1 p2
  go_enter Try.func15, Try.ntmps15
  go_wp2_with fail
  go_loopg [5] 1 (fun k vi wr => ∃ (i : Nat), k + i = 1 ∧ vi = .int .i64 i ∧ (i = 1 → rightB t xs true = true) ∧ Below w.heap.size w wr)
  case atStart => exact ⟨0, by omega, rfl, by simp, Below.refl _ _⟩
  case round =>
    obtain ⟨i, hi, rfl, hall, hk⟩ := hrel
    have HALL := Lib.hid hall
    have HK := Lib.hid hk
    clear hall hk p1 p2
    have hcase : (i = 0 ∧ gk = 1) ∨ (i = 1 ∧ gk = 0) := by omega
    clear hi
    rcases hcase with ⟨rfl, rfl⟩ | ⟨rfl, rfl⟩
    · obtain ⟨bb', oo', he, hbb', hcell⟩ := (HV.out wr HK.out).get (by omega)
      cases he
      obtain ⟨p1, p2⟩ := hcell 0 (by simp)
      simp only [List.getElem_cons_zero, Nat.mul_zero, Nat.add_zero, Nat.zero_mul] at p1 p2
      clear hcell
      go_wp2_with fail
      refine (intid_any t HT.out wr).mono ?_
      rintro e w' ⟨rfl, rfl⟩
      go_wp2_with fail
      refine (rint_any (some ⟨bb, oo, none⟩) 1 cap [⟨t, a1, n1, d1, xs⟩] t wr (fun w' h => HV.out w' (HK.out.trans (h.mono HK.out.size))) (by omega)).mono ?_
      rintro e w1 ⟨rfl, hk1⟩
      have HK1 := Lib.hid (HK.out.trans (hk1.mono HK.out.size))
      rw [HI.out]
      clear hk1 p1 p2
      have HR2 := Lib.hid HR.out
      generalize pnV xs = v at *
      generalize pnB xs = p at *
      generalize rightB t xs true = r at *
      have HT2 := Lib.hid HT.out
      rcases HT2.out with rfl | rfl | rfl | rfl | rfl | rfl
      all_goals
        cases p
        all_goals
          go_wp2_with fail
          all_goals first
            | (go_returns
               refine ⟨?_, HK1.out⟩
               have hr := HR2.out
               rw [HC.out]
               cases r with
               | false => rfl
               | true => exact absurd hr (by simp <;> omega))
            | (go_roundg 0
               case measure => omega
               case rel =>
                 refine ⟨1, rfl, by go_num, fun _ => ?_, HK1.out⟩
                 rw [HR2.out]
                 simp
                 try omega)
    · have HR1 := Lib.hid (HALL.out rfl)
      go_wp2_with fail
      go_returns
      rw [HC.out, HR1.out]
      exact ⟨rfl, HK.out⟩

end Go.Proofs.Ytabdoikfcaiobaa
