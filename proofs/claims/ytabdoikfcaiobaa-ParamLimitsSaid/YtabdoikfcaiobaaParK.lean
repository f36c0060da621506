/- Parameters, written, are read back. Parameters that came in. -/
import Derived.Test.YtabdoikfcaiobaaParJ
namespace Go.Proofs.Ytabdoikfcaiobaa
open Go.RowKit Go.Deep Go.Maps

theorem varLenV_pos {v : Int} (h : v ≤ 4611686018427387903) : 1 ≤ varLenV v ∧ varLenV v ≤ 8 := by rcases varLenV_cases v with h | h | h | h | h <;> omega
theorem frE_eq (f : Fr) (more : List UInt8) : frE f ++ more = varE f.t ++ (varE (f.xs.length : Int) ++ (f.xs ++ more)) := by
  unfold frE
  simp [varsE]
theorem oneR_frE (f : Fr) (more : List UInt8) (h0 : 0 ≤ f.t) (hok : frOK f = true) : oneR (frE f ++ more) = some (f.t, f.xs, more) := by
  obtain ⟨h1, h2⟩ := frOK_le hok
  obtain ⟨a1, a2, a3⟩ := rv_varE f.t h0 h1 (varE (f.xs.length : Int) ++ (f.xs ++ more))
  obtain ⟨b1, b2, b3⟩ := rv_varE (f.xs.length : Int) (by omega) h2 (f.xs ++ more)
  have p1 := varLenV_pos h1
  have p2 := varLenV_pos h2
  have l1 := varE_length f.t (by omega)
  have l2 := varE_length (f.xs.length : Int) (by omega)
  rw [frE_eq]
  have := oneR_4 (xs := varE f.t ++ (varE (f.xs.length : Int) ++ (f.xs ++ more))) (ys := varE (f.xs.length : Int) ++ (f.xs ++ more)) (k := (varE f.t).length) (j := (varE (f.xs.length : Int)).length) (n := f.xs.length) a3 (by rw [a2, l1]) (by rw [List.drop_left]) b3 b1 (by rw [b2, l2]) (by simp; omega)
  rw [this, a1]
  have e1 : (varE (f.xs.length : Int) ++ (f.xs ++ more)).drop (varE (f.xs.length : Int)).length = f.xs ++ more := List.drop_left
  have e2 : (varE (f.xs.length : Int) ++ (f.xs ++ more)).drop ((varE (f.xs.length : Int)).length + f.xs.length) = more := by
    rw [← List.append_assoc, ← List.length_append, List.drop_left]
  rw [e1, e2, List.take_append_of_le_length (Nat.le_refl _), List.take_length]
theorem frE_two (f : Fr) (hok : frOK f = true) : 2 ≤ (frE f).length := by
  obtain ⟨h1, h2⟩ := frOK_le hok
  have p1 := varLenV_pos h1
  have p2 := varLenV_pos h2
  have l1 := varE_length f.t (by omega)
  have l2 := varE_length (f.xs.length : Int) (by omega)
  unfold frE
  simp [varsE]
  omega
theorem frsE_cons (f : Fr) (l : List Fr) : frsE (f :: l) = frE f ++ frsE l := by simp [frsE]

theorem rdT_frs : ∀ (l acc : List Fr) (k : Nat), (frsE l).length < k → (∀ f ∈ l, 0 ≤ f.t ∧ frOK f = true) → (idL (acc ++ l)).Nodup → (acc ++ l).length ≤ 32 → rdT k (frsE l) (prsL acc) = some (prsL (acc ++ l))
  | [], acc, k, hk, _, _, _ => by
    obtain ⟨k', rfl⟩ : ∃ k', k = k' + 1 := ⟨k - 1, by omega⟩
    rw [List.append_nil]
    exact rdT_end _ _
  | f :: l, acc, k, hk, hall, hnd, hlen => by
    obtain ⟨k', rfl⟩ : ∃ k', k = k' + 1 := ⟨k - 1, by omega⟩
    have hf := hall f List.mem_cons_self
    have h2 := frE_two f hf.2
    rw [frsE_cons] at hk ⊢
    have hne : frE f ++ frsE l ≠ [] := by intro e; have := congrArg List.length e; simp at this; rw [this.1] at h2; simp at h2
    have hno : ¬ (f.t ∈ (prsL acc).map (·.1) ∨ (prsL acc).length = 32) := by
      rw [prsL_ids, prsL_length]
      rintro (h | h)
      · have e : idL (acc ++ f :: l) = idL acc ++ (f.t :: idL l) := by simp [idL]
        rw [e, List.nodup_append] at hnd
        exact hnd.2.2 _ h _ List.mem_cons_self rfl
      · simp at hlen; omega
    rw [rdT_go hne (oneR_frE f (frsE l) hf.1 hf.2) hno]
    have e : prsL acc ++ [(f.t, f.xs)] = prsL (acc ++ [f]) := by simp [prsL]
    rw [e, rdT_frs l (acc ++ [f]) k' (by simp at hk; omega) (fun g hg => hall g (List.mem_cons_of_mem _ hg)) (by rw [List.append_assoc]; exact hnd) (by rw [List.append_assoc]; exact hlen), List.append_assoc]
    rfl

theorem rdR_frs {l : List Fr} (h : paOK l = true) (h0 : ∀ f ∈ l, 0 ≤ f.t) : rdR (frsE l) = some (prsL l) := by
  unfold paOK at h
  simp only [Bool.and_eq_true, decide_eq_true_eq] at h
  obtain ⟨⟨h1, h2⟩, h3⟩ := h
  have := rdT_frs l [] ((frsE l).length + 1) (by omega) (fun f hf => ⟨h0 f hf, List.all_eq_true.1 h3 f hf⟩) (by simpa using h2) (by simpa using h1)
  simpa [rdR, prsL] using this

theorem Seen.vw2 {w : World} {a : Option Addr} {len cap : Nat} {V : Nat → Nat → Value} {cs : List Value} (hl : len ≤ cap) (hm : cap ≤ maxLen) (hs : Seen w a cap 2 V) (h1 : cs.length = len * 2) (h2 : ∀ i, i < len → cs[i * 2]? = some (V i 0) ∧ cs[i * 2 + 1]? = some (V i 1)) : Vw w a len cap 2 cs := by
  refine ⟨hl, hm, h1, ?_⟩
  rcases hs with h0 | ⟨b, off, rfl, hb, hc⟩
  · exact .inl (List.eq_nil_of_length_eq_zero (by omega))
  · refine .inr ⟨b, off, rfl, hb, fun j u hj => ?_⟩
    have hjl : j < len * 2 := by rw [← h1]; exact (List.getElem?_eq_some_iff.1 hj).1
    obtain ⟨i, hi⟩ : ∃ i, j = i * 2 ∨ j = i * 2 + 1 := ⟨j / 2, by omega⟩
    have hil : i < len := by omega
    rcases hi with rfl | rfl
    · rw [(h2 i hil).1] at hj
      cases hj
      exact hc i 0 (by omega) (by omega)
    · rw [(h2 i hil).2] at hj
      cases hj
      rw [← Nat.add_assoc]
      exact hc i 1 (by omega) (by omega)

theorem Rd.bytes {w : World} {v : Value} (h : Rd Try.prog w 25 v) : ∃ a n cap xs, v = .slice a n cap ∧ ∀ w', Below w.heap.size w w' → By w' a n cap xs := by
  obtain ⟨a, len, cap, V, rfl, hl, hm, hs, hv⟩ := h.row Try.underlying25 (by kernel_rfl)
  have hc : ∀ i, i < len → ∃ c : UInt8, V i 0 = B c := by
    intro i hi
    obtain ⟨n, hn, hw⟩ := (hv i (by omega)).int Try.underlying5
    have := wf_u8_iff hw
    refine ⟨byt n, ?_⟩
    rw [hn, ← B_byt, Int.emod_eq_of_lt (by omega) (by omega)]
  obtain ⟨xs, h1, h2⟩ := list_of B (fun i => V i 0) len hc
  exact ⟨a, len, cap, xs, rfl, fun w' hb => ⟨h1.symm, Seen.vw hl hm (hs.keep hb (Nat.le_refl _)) h1 h2⟩⟩

theorem list_of2 {α : Type} (R : α → Value → Value → Prop) (V : Nat → Nat → Value) : ∀ n : Nat, (∀ i, i < n → ∃ c : α, R c (V i 0) (V i 1)) → ∃ l : List α, l.length = n ∧ ∀ i (hi : i < l.length), R l[i] (V i 0) (V i 1) := by
  intro n
  induction n with
  | zero => intro _; exact ⟨[], rfl, fun i hi => by simp at hi⟩
  | succ n ih =>
    intro h
    obtain ⟨xs, h1, h2⟩ := ih (fun i hi => h i (by omega))
    obtain ⟨c, hc⟩ := h n (by omega)
    refine ⟨xs ++ [c], by simp [h1], fun i hi => ?_⟩
    by_cases hn : i < xs.length
    · rw [List.getElem_append_left hn]; exact h2 i hn
    · have : i = n := by simp at hi; omega
      subst this
      rw [List.getElem_append_right (by omega)]
      simpa [h1] using hc

theorem Arg.params {w : World} {v : Value} (h : Arg Try.prog w 22 v) : ∃ a n cap l, v = .slice a n cap ∧ ∀ w', Below w.heap.size w w' → Hv w' a n cap l := by
  obtain ⟨a, len, cap, V, rfl, hl, hm, hs, hv⟩ := (h.rd_slice Try.underlying22).slice Try.underlying22 Try.underlying42 (by kernel_rfl) (by kernel_rfl) (by decide)
  have each : ∀ i, i < len → ∃ f : Fr, V i 0 = .int .u64 f.t ∧ V i 1 = .slice f.a f.n f.cap ∧ 0 ≤ f.t ∧ f.t ≤ 18446744073709551615 ∧ ∀ w', Below w.heap.size w w' → By w' f.a f.n f.cap f.xs := by
    intro i hi
    obtain ⟨t, ht, hw⟩ := (hv i 0 _ (by omega) rfl).int Try.underlying40
    obtain ⟨a', n', c', xs, ha, hk⟩ := (hv i 1 _ (by omega) rfl).bytes
    have := wf_u64_iff hw
    exact ⟨⟨t, a', n', c', xs⟩, ht, ha, this.1, this.2, hk⟩
  obtain ⟨l, h1, h2⟩ := list_of2 (fun (f : Fr) x y => x = .int .u64 f.t ∧ y = .slice f.a f.n f.cap ∧ 0 ≤ f.t ∧ f.t ≤ 18446744073709551615 ∧ ∀ w', Below w.heap.size w w' → By w' f.a f.n f.cap f.xs) V len each
  refine ⟨a, len, cap, l, rfl, fun w' hb => ⟨h1.symm, Seen.vw2 hl hm (hs.keep hb (Nat.le_refl _)) (by rw [Frs_length, h1]) (fun i hi => ?_), fun f hf => ?_⟩⟩
  · have hi' : i < l.length := by omega
    obtain ⟨e0, e1, _⟩ := h2 i hi'
    rw [e0, e1]
    exact Frs_get l i hi'
  · obtain ⟨i, hi, rfl⟩ := List.getElem_of_mem hf
    obtain ⟨_, _, b0, b1, hk⟩ := h2 i hi
    exact ⟨b0, b1, hk w' hb⟩

end Go.Proofs.Ytabdoikfcaiobaa
