/- Parameters held against one another; light. -/
import Derived.Test.YtabdoikfcaiobaaParF
import Derived.Deep.RegionHeld3
namespace Go.Proofs.Ytabdoikfcaiobaa
open Go.RowKit Go.Deep Go.Maps

/-- string(b), as an equation on its run. -/
theorem By.cv {w : World} {a : Option Addr} {n cap : Nat} {xs : List UInt8} (h : By w a n cap xs) : (convert 25 9 (.slice a n cap)).run Try.prog w = .ok (.string ⟨xs.toArray⟩) w :=
  h.str _ 5 _ Try.underlying25 Try.underlying5 Try.underlying9
theorem By.drewN2 {w : World} {a : Option Addr} {n cap : Nat} {xs : List UInt8} (h : By w a n cap xs) (q : Nat) : By (w.drewN q) a n cap xs := ⟨h.1, h.2.drewN q⟩
theorem Hv.drew {w : World} {a : Option Addr} {n cap : Nat} {l : List Fr} (h : Hv w a n cap l) : Hv w.drew a n cap l := ⟨h.1, h.2.1.drew, fun f hf => ⟨(h.2.2 f hf).1, (h.2.2 f hf).2.1, By.drew2 (h.2.2 f hf).2.2⟩⟩
theorem Hv.drewN {w : World} {a : Option Addr} {n cap : Nat} {l : List Fr} (h : Hv w a n cap l) (q : Nat) : Hv (w.drewN q) a n cap l := ⟨h.1, h.2.1.drewN q, fun f hf => ⟨(h.2.2 f hf).1, (h.2.2 f hf).2.1, (h.2.2 f hf).2.2.drewN2 q⟩⟩

theorem prs_get {l m : List Fr} (h : prsL l = prsL m) (i : Nat) (hi : i < l.length) (hm : i < m.length) : l[i].t = m[i].t ∧ l[i].xs = m[i].xs := by
  have e : (prsL l)[i]? = (prsL m)[i]? := by rw [h]
  unfold prsL at e
  rw [List.getElem?_map, List.getElem?_map, List.getElem?_eq_getElem hi, List.getElem?_eq_getElem hm] at e
  simpa using e

set_option maxHeartbeats 1600000 in
theorem params_same (a b : Option Addr) (n m c d : Nat) (l k : List Fr) (w : World) (hl : Hv w a n c l) (hk : Hv w b m d k) (he : prsL l = prsL k) :
    Calls Try.prog 11 #[.slice a n c, .slice b m d] w fun e w' => e = .returned (.bool true) ∧ Below w.heap.size w w' := by
  have hlen : l.length = k.length := by rw [← prsL_length l, he, prsL_length]
  obtain rfl : n = m := by rw [hl.1, hk.1, hlen]
  have hcap := hl.2.1.le
  have hmax := hl.2.1.max
  have hcap2 := hk.2.1.le
  have hmax2 := hk.2.1.max
  unfold maxLen at hmax hmax2
  have HL := Lib.hid hl
  have HK := Lib.hid hk
  have HE := Lib.hid he
  have HLN := Lib.hid hlen
  have HN := Lib.hid hl.1
  clear hl hk he hlen
  go_enter Try.func11, Try.ntmps11
  go_wp2_with fail
  go_loopg [5] n (fun g vi wr => ∃ (i : Nat), g + i = n ∧ vi = .int .i64 i ∧ Hv wr a n c l ∧ Hv wr b n d k ∧ Below w.heap.size w wr)
  case atStart => exact ⟨0, by omega, rfl, HL.out, HK.out, Below.refl _ _⟩
  case round =>
    obtain ⟨i, hi, rfl, hl1, hk1, hbel⟩ := hrel
    have HI := Lib.hid hi
    have HL1 := Lib.hid hl1
    have HK1 := Lib.hid hk1
    have HBE := Lib.hid hbel
    clear hi hl1 hk1 hbel
    by_cases hin : i < n
    · have hix : i < l.length := by have := HN.out; omega
      have hix2 : i < k.length := by have := HN.out; have := HLN.out; omega
      obtain ⟨b1, o1, rfl, _, hc1⟩ := HL1.out.get (by omega)
      obtain ⟨b2, o2, rfl, _, hc2⟩ := HK1.out.get (by omega)
      obtain ⟨p1, p2⟩ := hc1 i hix
      obtain ⟨q1, q2⟩ := hc2 i hix2
      obtain ⟨e1, e2⟩ := prs_get HE.out i hix hix2
      have HB1 := Lib.hid ((HL1.out.2.2 l[i] (List.getElem_mem hix)).2.2)
      have HB2 := Lib.hid ((HK1.out.2.2 k[i] (List.getElem_mem hix2)).2.2)
      rw [← e2] at HB2
      rw [← e1] at q1
      clear hc1 hc2 e1 e2
      generalize l[i].t = t at *
      generalize l[i].xs = xs at *
      generalize l[i].a = a1 at *
      generalize l[i].n = n1 at *
      generalize l[i].cap = d1 at *
      generalize k[i].a = a2 at *
      generalize k[i].n = n2 at *
      generalize k[i].cap = d2 at *
      have z1 : (0 : Int) ≤ (i : Int) := by omega
      have z2 : (i : Int) < (n : Int) := by omega
      have c1 := HB1.out.cv
      have c2 := HB2.out.cv
      go_wp2_with fail
      go_region_held3 (fun w' => w'.cell? ⟨b1, o1 + i * 2, none⟩ = some (.int .u64 t) ∧ w'.cell? ⟨b1, o1 + i * 2 + 1, none⟩ = some (.slice a1 n1 d1) ∧ w'.cell? ⟨b2, o2 + i * 2, none⟩ = some (.int .u64 t) ∧ w'.cell? ⟨b2, o2 + i * 2 + 1, none⟩ = some (.slice a2 n2 d2) ∧ (convert 25 9 (.slice a1 n1 d1)).run Try.prog w' = .ok (.string ⟨xs.toArray⟩) w' ∧ (convert 25 9 (.slice a2 n2 d2)).run Try.prog w' = .ok (.string ⟨xs.toArray⟩) w')
        (exact ⟨p1, p2, q1, q2, By.cv (By.drew2 HB1.out), By.cv (By.drew2 HB2.out)⟩) (fail)
      go_wp2_with fail
      obtain ⟨k', rfl⟩ : ∃ k', gk = k' + 1 := ⟨gk - 1, by have := HI.out; omega⟩
      go_roundg k'
      case measure => omega
      case rel => exact ⟨i + 1, by have := HI.out; omega, by go_num, HL1.out.drew, HK1.out.drew, HBE.out.drew⟩
    · go_wp2_with fail
      go_returns
      exact ⟨rfl, HBE.out⟩

/-- Parameters that are light. -/
def lightB (l : List Fr) : Bool := decide (l.length ≤ 40 ∧ ∀ f ∈ l, f.n ≤ 60)
theorem light_not {l : List Fr} {i : Nat} (hi : i < l.length) (h : 60 < l[i].n) : lightB l = false := by
  unfold lightB
  simp only [decide_eq_false_iff_not]
  intro hh
  have := hh.2 l[i] (List.getElem_mem hi)
  omega

set_option maxHeartbeats 800000 in
theorem light_any (a : Option Addr) (n cap : Nat) (l : List Fr) (w : World) (hv : Hv w a n cap l) :
    Calls Try.prog 7 #[.slice a n cap] w fun e w' => e = .returned (.bool (lightB l)) ∧ w = w' := by
  have hcap := hv.2.1.le
  have hmax := hv.2.1.max
  unfold maxLen at hmax
  have HV := Lib.hid hv
  have HN := Lib.hid hv.1
  clear hv
  by_cases h10 : 40 < n
  · have HE : Hid (lightB l = false) := by show _ = _; unfold lightB; simp only [decide_eq_false_iff_not]; rw [← HN.out]; omega
    go_enter Try.func7, Try.ntmps7
    go_wp2_with fail
    go_returns
    exact ⟨by rw [HE.out]; rfl, rfl⟩
  · go_enter Try.func7, Try.ntmps7
    go_wp2_with fail
    go_loopg [3] n (fun k vi wr => ∃ (i : Nat), k + i = n ∧ vi = .int .i64 i ∧ (∀ f ∈ l.take i, f.n ≤ 60) ∧ w = wr)
    case atStart => exact ⟨0, by omega, rfl, by simp, rfl⟩
    case round =>
      obtain ⟨i, hi, rfl, hall, rfl⟩ := hrel
      have HI := Lib.hid hi
      have HALL := Lib.hid hall
      clear hi hall
      by_cases hin : i < n
      · have hix : i < l.length := by have := HN.out; omega
        obtain ⟨bb, oo, rfl, hbb, hcell⟩ := HV.out.get (by omega)
        have p2 := (hcell i hix).2
        clear hcell
        by_cases hb : 60 < l[i].n
        · have HE := Lib.hid (light_not hix hb)
          go_wp2_with fail
          go_returns
          exact ⟨by rw [HE.out]; rfl, rfl⟩
        · go_wp2_with fail
          obtain ⟨g', rfl⟩ : ∃ g', gk = g' + 1 := ⟨gk - 1, by have := HI.out; omega⟩
          go_roundg g'
          case measure => omega
          case rel =>
            refine ⟨i + 1, by have := HI.out; omega, by go_num, fun x hx => ?_, rfl⟩
            rw [List.take_succ_eq_append_getElem hix, List.mem_append] at hx
            rcases hx with hx | hx
            · exact HALL.out x hx
            · simp at hx
              subst hx
              omega
      · have HE : Hid (lightB l = true) := by
          show _ = _
          unfold lightB
          simp only [decide_eq_true_eq]
          refine ⟨by rw [← HN.out]; omega, fun f hf => HALL.out f ?_⟩
          rwa [List.take_of_length_le (by have := HN.out; omega)]
        go_wp2_with fail
        go_returns
        exact ⟨by rw [HE.out]; rfl, rfl⟩


end Go.Proofs.Ytabdoikfcaiobaa
