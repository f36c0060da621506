/- intId, Int of the package bifoldref17. -/
import Derived.Test.YtabdoikfcaiobaaParM
namespace Go.Proofs.Ytabdoikfcaiobaa
open Go.RowKit Go.Deep Go.Maps

set_option maxHeartbeats 1600000 in
theorem rint_any (a : Option Addr) (n cap : Nat) (l : List Fr) (id : Int) (w : World) (hv : ∀ w', Below w.heap.size w w' → Hv w' a n cap l) (hbig : n ≤ 1000) :
    Calls Try.prog 24 #[.slice a n cap, .int .u64 id] w fun e w' => e = .returned (.tuple #[.int .u64 (intV l id).1, .bool (intV l id).2]) ∧ Below w.heap.size w w' := by
  have hv0 := hv w (Below.refl _ _)
  have hcap := hv0.2.1.le
  have hmax := hv0.2.1.max
  unfold maxLen at hmax
  have HV := Lib.hid hv
  have HN := Lib.hid hv0.1
  clear hv hv0
  go_enter Try.func24, Try.ntmps24
  go_wp2_with fail
  go_loopg [6] n (fun k vi wr => ∃ (i : Nat), k + i = n ∧ vi = .int .i64 i ∧ (∀ f ∈ l.take i, (pnB f.xs && f.t == id) = false) ∧ Below w.heap.size w wr)
  case atStart => exact ⟨0, by omega, rfl, by simp, Below.refl _ _⟩
  case round =>
    obtain ⟨i, hi, rfl, hall, hk⟩ := hrel
    have HI := Lib.hid hi
    have HALL := Lib.hid hall
    have HK := Lib.hid hk
    clear hi hall hk
    by_cases hin : i < n
    · have hix : i < l.length := by have := HN.out; omega
      have HW := Lib.hid (HV.out wr HK.out)
      obtain ⟨bb, oo, rfl, hbb, hcell⟩ := HW.out.get (by omega)
      obtain ⟨p1, p2⟩ := hcell i hix
      have HB := Lib.hid ((HW.out.2.2 l[i] (List.getElem_mem hix)).2.2)
      have HYES : Hid ((pnB l[i].xs && l[i].t == id) = true → intV l id = (pnV l[i].xs, true)) := Lib.hid (fun h => intV_at hix HALL.out h)
      have HGO : Hid ((pnB l[i].xs && l[i].t == id) = false → ∀ f ∈ l.take (i + 1), (pnB f.xs && f.t == id) = false) := Lib.hid (fun h f hf => by
        rw [List.take_succ_eq_append_getElem hix, List.mem_append] at hf
        rcases hf with hf | hf
        · exact HALL.out f hf
        · simp at hf; subst hf; exact h)
      clear hcell
      generalize l[i].t = t at *
      generalize l[i].xs = xs at *
      generalize l[i].a = a1 at *
      generalize l[i].n = n1 at *
      generalize l[i].cap = d1 at *
      obtain ⟨k', rfl⟩ : ∃ k', gk = k' + 1 := ⟨gk - 1, by have := HI.out; omega⟩
      by_cases hti : t = id
      · subst hti
        go_wp2_with fail
        refine (readvarr_any a1 n1 d1 xs _ HB.out).mono ?_
        rintro e w1 ⟨rfl, rfl⟩
        by_cases h1 : rvE xs = 0
        · by_cases h2 : rvL xs = (n1 : Int)
          · have HP : Hid (pnB xs = true) := Lib.hid (by unfold pnB; rw [h1, h2, HB.out.1]; simp)
            have HE := Lib.hid (HYES.out (by rw [HP.out]; simp))
            have HPV : Hid (pnV xs = rvV xs) := Lib.hid (by unfold pnV; rw [if_pos HP.out])
            rw [h1, h2]
            clear h1 h2
            go_wp2_with fail
            go_returns
            rw [HE.out, HPV.out]
            exact ⟨rfl, HK.out⟩
          · have HP : Hid (pnB xs = false) := Lib.hid (by unfold pnB; rw [← HB.out.1]; simpa using fun _ => h2)
            have HOK := Lib.hid (HGO.out (by rw [HP.out]; rfl))
            have h2' : (rvL xs == (n1 : Int)) = false := by simpa using h2
            rw [h1]
            clear h1 h2
            generalize rvL xs = ll at *
            go_wp2_with fail
            go_roundg k'
            case measure => omega
            case rel => exact ⟨i + 1, by have := HI.out; omega, by go_num, HOK.out, HK.out⟩
        · have HP : Hid (pnB xs = false) := Lib.hid (by unfold pnB; have : (rvE xs == 0) = false := by simpa using h1
                                                        rw [this]; rfl)
          have HOK := Lib.hid (HGO.out (by rw [HP.out]; rfl))
          have h1' : (rvE xs == 0) = false := by simpa using h1
          clear h1
          generalize rvE xs = ee at *
          generalize rvL xs = ll at *
          go_wp2_with fail
          go_roundg k'
          case measure => omega
          case rel => exact ⟨i + 1, by have := HI.out; omega, by go_num, HOK.out, HK.out⟩
      · have HOK := Lib.hid (HGO.out (by simpa using fun _ => hti))
        have hti2 : (t == id) = false := by simpa using hti
        have hti3 : (t != id) = true := by simpa using hti
        clear hti
        go_wp2_with fail
        go_roundg k'
        case measure => omega
        case rel => exact ⟨i + 1, by have := HI.out; omega, by go_num, HOK.out, HK.out⟩
    · have HE : Hid (intV l id = (0, false)) := Lib.hid (intV_none fun f hf => HALL.out f (by rwa [List.take_of_length_le (by have := HN.out; omega)]))
      go_wp2_with fail
      go_returns
      rw [HE.out]
      exact ⟨rfl, HK.out⟩

end Go.Proofs.Ytabdoikfcaiobaa
