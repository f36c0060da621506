/- Check and Int of the package qparam. -/
import Derived.Test.YtabdoikfcaiobaaParH
namespace Go.Proofs.Ytabdoikfcaiobaa
open Go.RowKit Go.Deep Go.Maps

def checkI (l : List Fr) (srv : Bool) : Int := if l.all (fun f => rightB f.t f.xs srv) then 0 else 41
theorem check_not {l : List Fr} {srv : Bool} {i : Nat} (hi : i < l.length) (h : rightB l[i].t l[i].xs srv = false) : checkI l srv = 41 := by
  unfold checkI
  rw [if_neg]
  intro ha
  have := List.all_eq_true.1 ha l[i] (List.getElem_mem hi)
  rw [h] at this
  cases this

set_option maxHeartbeats 1600000 in
theorem check_any (a : Option Addr) (n cap : Nat) (l : List Fr) (srv : Bool) (w : World) (hv : ∀ w', Below w.heap.size w w' → Hv w' a n cap l) (hbig : n ≤ 1000) :
    Calls Try.prog 14 #[.slice a n cap, .bool srv] w fun e w' => e = .returned (.int .i64 (checkI l srv)) ∧ Below w.heap.size w w' := by
  have hv0 := hv w (Below.refl _ _)
  have hcap := hv0.2.1.le
  have hmax := hv0.2.1.max
  unfold maxLen at hmax
  have HV := Lib.hid hv
  have HN := Lib.hid hv0.1
  clear hv hv0
  go_enter Try.func14, Try.ntmps14
  go_wp2_with fail
  go_loopg [9] n (fun k vi wr => ∃ (i : Nat), k + i = n ∧ vi = .int .i64 i ∧ (∀ f ∈ l.take i, rightB f.t f.xs srv = true) ∧ Below w.heap.size w wr)
  case atStart => exact ⟨0, by omega, rfl, by simp, Below.refl _ _⟩
  case round =>
    obtain ⟨i, hi, rfl, hall, hk⟩ := hrel
    have HI := Lib.hid hi
    have HALL := Lib.hid hall
    have HK := Lib.hid hk
    clear hi hall hk
    by_cases hin : i < n
    · have hix : i < l.length := by have := HN.out; omega
      have HW := Lib.hid (HV.out wr HK.out)
      obtain ⟨bb, oo, rfl, hbb, hcell⟩ := HW.out.get (by omega)
      obtain ⟨p1, p2⟩ := hcell i hix
      have HB := Lib.hid ((HW.out.2.2 l[i] (List.getElem_mem hix)).2.2)
      have HNT : Hid (rightB l[i].t l[i].xs srv = false → checkI l srv = 41) := Lib.hid (fun h => check_not hix h)
      have HGO : Hid (rightB l[i].t l[i].xs srv = true → ∀ f ∈ l.take (i + 1), rightB f.t f.xs srv = true) := Lib.hid (fun h f hf => by
        rw [List.take_succ_eq_append_getElem hix, List.mem_append] at hf
        rcases hf with hf | hf
        · exact HALL.out f hf
        · simp at hf; subst hf; exact h)
      clear hcell
      generalize l[i].t = t at *
      generalize l[i].xs = xs at *
      generalize l[i].a = a1 at *
      generalize l[i].n = n1 at *
      generalize l[i].cap = d1 at *
      have HKA := Lib.hid (HK.out.alloc HK.out.size (.cells #[.int .u64 t, .slice a1 n1 d1] 42 (0, 0)))
      cases hr : rightB t xs srv with
      | true =>
        have HR := Lib.hid hr
        have HOK := Lib.hid (HGO.out hr)
        clear hr
        go_wp2_with fail
        refine (right_any t a1 n1 d1 xs srv _ (HB.out.alloc _) true HR).mono ?_
        rintro e w1 ⟨rfl, hk1⟩
        have HK1 := Lib.hid (HKA.out.trans (hk1.mono HKA.out.size))
        clear hk1
        go_wp2_with fail
        obtain ⟨k', rfl⟩ : ∃ k', gk = k' + 1 := ⟨gk - 1, by have := HI.out; omega⟩
        go_roundg k'
        case measure => omega
        case rel => exact ⟨i + 1, by have := HI.out; omega, by go_num, HOK.out, HK1.out⟩
      | false =>
        have HR := Lib.hid hr
        have HNO := Lib.hid (HNT.out hr)
        clear hr
        go_wp2_with fail
        refine (right_any t a1 n1 d1 xs srv _ (HB.out.alloc _) false HR).mono ?_
        rintro e w1 ⟨rfl, hk1⟩
        have HK1 := Lib.hid (HKA.out.trans (hk1.mono HKA.out.size))
        clear hk1
        go_wp2_with fail
        go_returns
        rw [HNO.out]
        exact ⟨rfl, HK1.out⟩
    · have HE : Hid (checkI l srv = 0) := Lib.hid (by
        unfold checkI
        rw [if_pos (List.all_eq_true.2 fun f hf => HALL.out f (by rwa [List.take_of_length_le (by have := HN.out; omega)]))])
      go_wp2_with fail
      go_returns
      rw [HE.out]
      exact ⟨rfl, HK.out⟩

/-- The number of the first parameter that has one. -/
def intO (l : List Fr) (id : Int) : Option Fr := l.find? fun f => pnB f.xs && f.t == id
def intV (l : List Fr) (id : Int) : Int × Bool := match intO l id with
  | some f => (pnV f.xs, true)
  | none => (0, false)
theorem intV_at {l : List Fr} {id : Int} {i : Nat} (hi : i < l.length) (hno : ∀ f ∈ l.take i, (pnB f.xs && f.t == id) = false) (h : (pnB l[i].xs && l[i].t == id) = true) : intV l id = (pnV l[i].xs, true) := by
  unfold intV intO
  have e : l = l.take i ++ (l[i] :: l.drop (i + 1)) := by rw [← List.drop_eq_getElem_cons hi, List.take_append_drop]
  have hf : l.find? (fun f => pnB f.xs && f.t == id) = some l[i] := by
    conv => lhs; rw [e]
    rw [List.find?_append, List.find?_eq_none.2 (fun f hf => by simp only [hno f hf]; simp), Option.none_or, List.find?_cons_of_pos (by exact h)]
  rw [hf]
theorem intV_none {l : List Fr} {id : Int} (hno : ∀ f ∈ l, (pnB f.xs && f.t == id) = false) : intV l id = (0, false) := by
  unfold intV intO
  rw [List.find?_eq_none.2 (fun f hf => by simp only [hno f hf]; simp)]

set_option maxHeartbeats 1600000 in
theorem int_any (a : Option Addr) (n cap : Nat) (l : List Fr) (id : Int) (w : World) (hv : ∀ w', Below w.heap.size w w' → Hv w' a n cap l) (hbig : n ≤ 1000) :
    Calls Try.prog 16 #[.slice a n cap, .int .u64 id] w fun e w' => e = .returned (.tuple #[.int .u64 (intV l id).1, .bool (intV l id).2]) ∧ Below w.heap.size w w' := by
  have hv0 := hv w (Below.refl _ _)
  have hcap := hv0.2.1.le
  have hmax := hv0.2.1.max
  unfold maxLen at hmax
  have HV := Lib.hid hv
  have HN := Lib.hid hv0.1
  clear hv hv0
  go_enter Try.func16, Try.ntmps16
  go_wp2_with fail
  go_loopg [12] n (fun k vi wr => ∃ (i : Nat), k + i = n ∧ vi = .int .i64 i ∧ (∀ f ∈ l.take i, (pnB f.xs && f.t == id) = false) ∧ Below w.heap.size w wr)
  case atStart => exact ⟨0, by omega, rfl, by simp, Below.refl _ _⟩
  case round =>
    obtain ⟨i, hi, rfl, hall, hk⟩ := hrel
    have HI := Lib.hid hi
    have HALL := Lib.hid hall
    have HK := Lib.hid hk
    clear hi hall hk
    by_cases hin : i < n
    · have hix : i < l.length := by have := HN.out; omega
      have HW := Lib.hid (HV.out wr HK.out)
      obtain ⟨bb, oo, rfl, hbb, hcell⟩ := HW.out.get (by omega)
      obtain ⟨p1, p2⟩ := hcell i hix
      have HB := Lib.hid ((HW.out.2.2 l[i] (List.getElem_mem hix)).2.2)
      have HYES : Hid ((pnB l[i].xs && l[i].t == id) = true → intV l id = (pnV l[i].xs, true)) := Lib.hid (fun h => intV_at hix HALL.out h)
      have HGO : Hid ((pnB l[i].xs && l[i].t == id) = false → ∀ f ∈ l.take (i + 1), (pnB f.xs && f.t == id) = false) := Lib.hid (fun h f hf => by
        rw [List.take_succ_eq_append_getElem hix, List.mem_append] at hf
        rcases hf with hf | hf
        · exact HALL.out f hf
        · simp at hf; subst hf; exact h)
      clear hcell
      generalize l[i].t = t at *
      generalize l[i].xs = xs at *
      generalize l[i].a = a1 at *
      generalize l[i].n = n1 at *
      generalize l[i].cap = d1 at *
      have HF := Lib.hid (Blk.new wr #[.int .u64 t, .slice a1 n1 d1] 42)
      have HKA := Lib.hid (HK.out.alloc HK.out.size (.cells #[.int .u64 t, .slice a1 n1 d1] 42 (0, 0)))
      go_wp2_with fail
      refine (pnumber_any t a1 n1 d1 xs _ (HB.out.alloc _)).mono ?_
      rintro e w1 ⟨rfl, hk1⟩
      have HK1 := Lib.hid (HKA.out.trans (hk1.mono HKA.out.size))
      have HF1 := Lib.hid ((Below.keeps hk1).blk HF.out (by simp))
      clear hk1
      obtain ⟨⟨f0, f1⟩, _⟩ := two_cells HF1.out
      generalize pnV xs = v at *
      generalize pnB xs = p at *
      obtain ⟨k', rfl⟩ : ∃ k', gk = k' + 1 := ⟨gk - 1, by have := HI.out; omega⟩
      cases p with
      | false =>
        have HOK := Lib.hid (HGO.out rfl)
        go_wp2_with fail
        go_roundg k'
        case measure => omega
        case rel => exact ⟨i + 1, by have := HI.out; omega, by go_num, HOK.out, HK1.out⟩
      | true =>
        by_cases hti : t = id
        · subst hti
          have HE := Lib.hid (HYES.out (by simp))
          go_wp2_with fail
          go_returns
          rw [HE.out]
          exact ⟨rfl, HK1.out⟩
        · have HOK := Lib.hid (HGO.out (by simpa using hti))
          have hti2 : (t == id) = false := by simpa using hti
          clear hti
          go_wp2_with fail
          go_roundg k'
          case measure => omega
          case rel => exact ⟨i + 1, by have := HI.out; omega, by go_num, HOK.out, HK1.out⟩
    · have HE : Hid (intV l id = (0, false)) := Lib.hid (intV_none fun f hf => HALL.out f (by rwa [List.take_of_length_le (by have := HN.out; omega)]))
      go_wp2_with fail
      go_returns
      rw [HE.out]
      exact ⟨rfl, HK.out⟩

end Go.Proofs.Ytabdoikfcaiobaa
