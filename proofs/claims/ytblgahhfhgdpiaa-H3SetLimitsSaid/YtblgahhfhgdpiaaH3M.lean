/- The plain laws of numbers cut off, of two numbers in a row, of settings read back. -/
import Derived.Test.YtblgahhfhgdpiaaH3L
namespace Go.Proofs.Ytblgahhfhgdpiaa
open Go.RowKit Go.Deep Go.Maps

theorem rv_cut (v : Int) (h0 : 0 ≤ v) (h1 : v ≤ 4611686018427387903) (i : Nat) (hi : i < (varE v).length) : rvL ((varE v).take i) = 0 ∧ rvE ((varE v).take i) = 20 := by
  obtain ⟨hv, hl, he⟩ := rv_varE v h0 h1 []
  rw [List.append_nil] at hv hl he
  have hlen := varE_length v (by rcases varLenV_cases v with h | h | h | h | h <;> omega)
  have hh : rvHave ((varE v).take i) = false := by
    simp only [rvHave, decide_eq_false_iff_not]
    intro hc
    obtain ⟨c1, c2⟩ := hc
    have hpos : rvHave (varE v) = true := by
      by_cases h : rvHave (varE v) = true
      · exact h
      · exfalso
        unfold rvE at he
        rw [if_neg h] at he
        cases he
    have hL : rvN ((varE v).headD 0) = varLenV v := by unfold rvL at hl; rw [hpos, if_pos rfl] at hl; exact hl
    have e : ((varE v).take i).headD 0 = (varE v).headD 0 := by
      cases hE : varE v with
      | nil => rw [hE] at hi; simp at hi
      | cons c cs =>
        cases i with
        | zero => simp at c1
        | succ i => rfl
    rw [e, hL, ← hlen] at c2
    simp at c2
    omega
  unfold rvL rvE
  rw [hh]
  exact ⟨rfl, rfl⟩
theorem By.head {w : World} {a : Option Addr} {n cap : Nat} {xs : List UInt8} (h : By w a n cap xs) (hi : Nat) (h2 : hi ≤ n) : By w a hi cap (xs.take hi) := by
  have := h.sub 0 hi (by omega) h2
  simp only [Nat.sub_zero, List.drop_zero, Nat.zero_mul] at this
  refine ⟨this.1, by have := h.2.le; omega, h.2.max, this.2.len, ?_⟩
  rcases this.2.at_ with h0 | ⟨b, off, ha, hb, hc⟩
  · exact .inl h0
  · by_cases he : cap = 0
    · rw [if_pos he] at ha; exact .inr ⟨b, off, ha, hb, hc⟩
    · rw [if_neg he] at ha
      refine .inr ⟨b, off, ?_, hb, hc⟩
      cases a with
      | none => cases ha
      | some a => simpa [Addr.add] using ha
theorem and62 (t : Int) (h0 : 0 ≤ t) (h1 : t ≤ 18446744073709551615) : bits .and .u64 t 4611686018427387903 = t % 4611686018427387904 := by
  have := and64 62 (a := t) (m := 4611686018427387903) h0 (by omega) (by omega) (by simp)
  rw [this]
  simp

/-- What two numbers, and what stands behind them, read as. -/
theorem two_facts (u v : Int) (more : List UInt8) (u0 : 0 ≤ u) (u1 : u ≤ 4611686018427387903) (v0 : 0 ≤ v) (v1 : v ≤ 4611686018427387903) :
    ∃ (k j : Nat), 1 ≤ k ∧ 1 ≤ j ∧ (varE u).length = k ∧ (varE v).length = j ∧ rvE (varE u ++ (varE v ++ more)) = 0 ∧ rvL (varE u ++ (varE v ++ more)) = k ∧ (varE u ++ (varE v ++ more)).drop k = varE v ++ more ∧ rvE (varE v ++ more) = 0 ∧ rvL (varE v ++ more) = j ∧ rvV (varE v ++ more) = v ∧ rvV (varE u ++ (varE v ++ more)) = u := by
  obtain ⟨a1, a2, a3⟩ := rv_varE u u0 u1 (varE v ++ more)
  obtain ⟨b1, b2, b3⟩ := rv_varE v v0 v1 more
  have p1 := varLenV_pos u1
  have p2 := varLenV_pos v1
  have l1 := varE_length u (by omega)
  have l2 := varE_length v (by omega)
  exact ⟨(varE u).length, (varE v).length, by omega, by omega, rfl, rfl, a3, by rw [a2, l1], by rw [List.drop_left], b3, by rw [b2, l2], b1, a1⟩
theorem vars_two (u v : Int) (u1 : u ≤ 4611686018427387903) (v1 : v ≤ 4611686018427387903) (more : List UInt8) : varsErr [u, v] = 0 ∧ varsR [] [u, v] ++ more = varE u ++ (varE v ++ more) := by
  have : varsOK [u, v] = true := by simp [varsOK, u1, v1]
  unfold varsErr varsR
  rw [this]
  simp [varsE]

theorem setE_le (l : List (Int × Int)) : (setE l).length ≤ 16 * l.length := by
  induction l with
  | nil => simp [setE]
  | cons p l ih =>
    have := varsE_two p.1 p.2
    have e : setE (p :: l) = varsE [p.1, p.2] ++ setE l := by simp [setE]
    rw [e, List.length_append, List.length_cons]
    omega
theorem setB_le (l : List (Int × Int)) : (setB l).length ≤ 16 * l.length := by
  have := setE_le l
  unfold setB
  split
  · exact this
  · simp

theorem setE_cons (p : Int × Int) (l : List (Int × Int)) : setE (p :: l) = varE p.1 ++ (varE p.2 ++ setE l) := by
  unfold setE
  simp [varsE]
/-- Settings read back are just those, if they are not refused. -/
theorem rsT_setE : ∀ (l : List (Int × Int)) (f : Nat) (out : List (Int × Int)), (setE l).length < f → setOK l = true → (∀ p ∈ l, inU p.1 ∧ inU p.2) → (rsT f (setE l) out).2 = 0 → (rsT f (setE l) out).1 = out ++ l := by
  intro l
  induction l with
  | nil =>
    intro f out hf hok hin h
    have e : setE [] = [] := rfl
    rw [e, rsT_0 rfl]
    simp
  | cons p l ih =>
    intro f out hf hok hin h
    have hok1 : varsOK [p.1, p.2] = true ∧ setOK l = true := by
      unfold setOK at *
      simpa using hok
    obtain ⟨⟨u0, _⟩, ⟨v0, _⟩⟩ := hin p (by simp)
    have hp : p.1 ≤ 4611686018427387903 ∧ p.2 ≤ 4611686018427387903 := by
      have := hok1.1
      unfold varsOK at this
      simpa using this
    obtain ⟨k, j, k1, j1, l1, l2, e1, e2, e3, e4, e5, e6, e7⟩ := two_facts p.1 p.2 (setE l) u0 hp.1 v0 hp.2
    rw [setE_cons] at hf h ⊢
    have hpos : 0 < (varE p.1 ++ (varE p.2 ++ setE l)).length := by simp [l1]; omega
    by_cases hb : rsBad out p.1 = true
    · rw [rsT_3 hpos hf e1 e2 e3 e4 (by rw [e7]; exact hb)] at h
      cases h
    · rw [rsT_4 hpos hf e1 e2 e3 e4 e5 (by rw [e7]; simpa using hb)] at h ⊢
      have e8 : (varE p.1 ++ (varE p.2 ++ setE l)).drop (k + j) = setE l := by rw [← List.append_assoc, List.drop_left' (by simp [l1, l2])]
      rw [e8, e7, e6] at h ⊢
      rw [ih (f - 1) _ (by simp [l1, l2] at hf; omega) hok1.2 (fun q hq => hin q (by simp [hq])) h]
      simp
theorem rsR_setB (l : List (Int × Int)) (hin : ∀ p ∈ l, inU p.1 ∧ inU p.2) (he : setErr l = 0) (h : (rsR (setT l) (setB l)).2 = 0) : (rsR (setT l) (setB l)).1 = l := by
  have hok : setOK l = true := by
    unfold setErr at he
    split at he
    · cases he
    · split at he
      · assumption
      · cases he
  have e1 : setT l = 4 := by unfold setT; rw [if_pos he]
  have e2 : setB l = setE l := by unfold setB; rw [if_pos he]
  rw [e1, e2] at h ⊢
  unfold rsR at *
  rw [if_pos rfl] at h ⊢
  simpa using rsT_setE l _ [] (Nat.lt_succ_self _) hok hin h

end Go.Proofs.Ytblgahhfhgdpiaa
