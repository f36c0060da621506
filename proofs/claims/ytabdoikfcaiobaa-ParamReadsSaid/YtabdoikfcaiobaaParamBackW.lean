/- The walk of ParamBack. -/
import Derived.Test.YtabdoikfcaiobaaParK
namespace Go.Proofs.Ytabdoikfcaiobaa
open Go.RowKit Go.Deep Go.Maps

theorem light_le {l : List Fr} (h : lightB l = true) : l.length ≤ 40 ∧ ∀ f ∈ l, f.n ≤ 60 := by
  unfold lightB at h
  simpa using h

set_option maxHeartbeats 1600000 in
theorem walkParamBack (w : World) (v0 : Value) (h0 : Arg Try.prog w 22 v0) :
    Calls Try.prog 3 #[v0] w fun e w' => e = .returned (.bool true) ∧ Below w.heap.size w w' := by
  obtain ⟨a, n, cap, l, rfl, hv⟩ := h0.params
  have HV := Lib.hid hv
  clear hv h0
  go_enter Try.func3, Try.ntmps3
  go_wp2_with fail
  refine (known_any w).mono ?_
  rintro e w1 ⟨rfl, hk1⟩
  have HK1 := Lib.hid hk1
  clear hk1
  go_wp2_with fail
  refine (light_any a n cap l w1 (HV.out w1 HK1.out)).mono ?_
  rintro e w' ⟨rfl, rfl⟩
  cases hlt : lightB l with
  | false =>
    have HL := Lib.hid hlt
    clear hlt
    go_wp2_with fail
    go_returns
    exact ⟨rfl, HK1.out⟩
  | true =>
    obtain ⟨hl40, hl60⟩ := light_le hlt
    have HL := Lib.hid hlt
    have H60 : Hid (∀ f ∈ l, f.n ≤ 1000000) := Lib.hid (fun f hf => by have := hl60 f hf; omega)
    have HLE : Hid ((paR l).length ≤ 1000000) := Lib.hid (by
      have h1 : ∀ l : List Fr, (∀ f ∈ l, f.n ≤ 60 ∧ f.n = f.xs.length) → (frsE l).length ≤ 76 * l.length := by
        intro l
        induction l with
        | nil => intro _; simp [frsE]
        | cons f l ih =>
          intro h
          have hf := h f List.mem_cons_self
          have := ih (fun g hg => h g (List.mem_cons_of_mem _ hg))
          have h2 := varsE_two f.t (f.xs.length : Int)
          rw [frsE_cons, List.length_append]
          unfold frE
          simp only [List.length_append, List.length_cons]
          omega
      have h2 := h1 l (fun f hf => ⟨hl60 f hf, ((HV.out w1 HK1.out).2.2 f hf).2.2.1⟩)
      unfold paR
      split
      · omega
      · simp)
    have HT0 : Hid (∀ f ∈ l, 0 ≤ f.t) := Lib.hid (fun f hf => ((HV.out w1 HK1.out).2.2 f hf).1)
    clear hlt hl40 hl60
    go_wp2_with fail
    refine (qwrite_any a n cap l w1 (fun w' h => HV.out w' (HK1.out.trans (h.mono HK1.out.size))) H60.out).mono ?_
    rintro e w2 ⟨a2, n2, c2, rfl, ho2, hk2⟩
    have HO2 := Lib.hid ho2
    have HK2 := Lib.hid (HK1.out.trans (hk2.mono HK1.out.size))
    clear ho2 hk2
    go_wp2_with fail
    refine (pwrite_any a n cap l w2 (fun w' h => HV.out w' (HK2.out.trans (h.mono HK2.out.size))) H60.out).mono ?_
    rintro e w3 ⟨a3, n3, c3, rfl, ho3, hk3⟩
    have HO3 := Lib.hid ho3
    have HO23 := Lib.hid (HO2.out.by.grow2 hk3 (fun b hb => (HO2.out.ge b hb).2))
    have HK3 := Lib.hid (HK2.out.trans (hk3.mono HK2.out.size))
    have HS3 := Lib.hid hk3.size
    clear ho3 hk3
    have hne : (paErr l != paErr l) = false := by simp
    go_wp2_with fail
    refine HO23.out.upon ?_
    go_wp2_with fail
    refine HO3.out.by.upon ?_
    go_wp2_with fail
    refine (qread_any a2 n2 c2 (paR l) w3 HO23.out (by have := HO23.out.1; have := HLE.out; omega) (fun b hb => by have := (HO2.out.ge b hb).2; have := HS3.out; omega)).mono ?_
    rintro e w4 ⟨hk4, h4⟩
    have HK4 := Lib.hid (HK3.out.trans (hk4.mono HK3.out.size))
    clear hk4
    cases hp : paOK l with
    | false =>
      have HE := Lib.hid (pa_bad hp)
      clear hp
      have hrd : rdR [] = some [] := by decide +kernel
      rw [HE.out.1, hrd] at h4
      obtain ⟨a5, c5, m, rfl, _, _⟩ := h4
      rw [HE.out.2]
      clear hne
      go_wp2_with fail
      go_returns
      exact ⟨rfl, HK4.out⟩
    | true =>
      have HE := Lib.hid (pa_good hp)
      have HRD := Lib.hid (rdR_frs hp HT0.out)
      clear hp
      rw [HE.out.1, HRD.out] at h4
      obtain ⟨a5, c5, m, rfl, hm, hpo⟩ := h4
      have HM := Lib.hid hm
      have HPO := Lib.hid hpo
      clear hm hpo
      rw [HE.out.2]
      clear hne
      go_wp2_with fail
      refine (params_same a a5 n m.length cap c5 l m w4 (HV.out w4 HK4.out) HPO.out.hv HM.out.symm).mono ?_
      rintro e w5 ⟨rfl, hk5⟩
      have HK5 := Lib.hid (HK4.out.trans (hk5.mono HK4.out.size))
      clear hk5
      go_wp2_with fail
      go_returns
      exact ⟨rfl, HK5.out⟩

end Go.Proofs.Ytabdoikfcaiobaa
