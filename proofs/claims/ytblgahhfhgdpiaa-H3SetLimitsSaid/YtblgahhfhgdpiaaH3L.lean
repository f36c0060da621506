/- Arguments that are frames and settings; the plain law of frames read back. -/
import Derived.Test.YtblgahhfhgdpiaaH3K
namespace Go.Proofs.Ytblgahhfhgdpiaa
open Go.RowKit Go.Deep Go.Maps

/-- string(b), as an equation on its run. -/
theorem By.cv {w : World} {a : Option Addr} {n cap : Nat} {xs : List UInt8} (h : By w a n cap xs) : (convert 22 9 (.slice a n cap)).run Try.prog w = .ok (.string ⟨xs.toArray⟩) w :=
  h.str _ 5 _ Try.underlying22 Try.underlying5 Try.underlying9

theorem Seen.vw2 {w : World} {a : Option Addr} {len cap : Nat} {V : Nat → Nat → Value} {cs : List Value} (hl : len ≤ cap) (hm : cap ≤ maxLen) (hs : Seen w a cap 2 V) (h1 : cs.length = len * 2) (h2 : ∀ i, i < len → cs[i * 2]? = some (V i 0) ∧ cs[i * 2 + 1]? = some (V i 1)) : Vw w a len cap 2 cs := by
  refine ⟨hl, hm, h1, ?_⟩
  rcases hs with h0 | ⟨b, off, rfl, hb, hc⟩
  · exact .inl (List.eq_nil_of_length_eq_zero (by omega))
  · refine .inr ⟨b, off, rfl, hb, fun j u hj => ?_⟩
    have hjl : j < len * 2 := by rw [← h1]; exact (List.getElem?_eq_some_iff.1 hj).1
    obtain ⟨i, hi⟩ : ∃ i, j = i * 2 ∨ j = i * 2 + 1 := ⟨j / 2, by omega⟩
    have hil : i < len := by omega
    rcases hi with rfl | rfl
    · rw [(h2 i hil).1] at hj
      cases hj
      exact hc i 0 (by omega) (by omega)
    · rw [(h2 i hil).2] at hj
      cases hj
      rw [← Nat.add_assoc]
      exact hc i 1 (by omega) (by omega)

theorem Rd.bytes {w : World} {v : Value} (h : Rd Try.prog w 22 v) : ∃ a n cap xs, v = .slice a n cap ∧ ∀ w', Below w.heap.size w w' → By w' a n cap xs := by
  obtain ⟨a, len, cap, V, rfl, hl, hm, hs, hv⟩ := h.row Try.underlying22 (by kernel_rfl)
  have hc : ∀ i, i < len → ∃ c : UInt8, V i 0 = B c := by
    intro i hi
    obtain ⟨n, hn, hw⟩ := (hv i (by omega)).int Try.underlying5
    have := wf_u8_iff hw
    refine ⟨byt n, ?_⟩
    rw [hn, ← B_byt, Int.emod_eq_of_lt (by omega) (by omega)]
  obtain ⟨xs, h1, h2⟩ := list_of B (fun i => V i 0) len hc
  exact ⟨a, len, cap, xs, rfl, fun w' hb => ⟨h1.symm, Seen.vw hl hm (hs.keep hb (Nat.le_refl _)) h1 h2⟩⟩

/-- A list out of its elements, of which each is told by two cells. -/
theorem list_of2 {α : Type} (R : α → Value → Value → Prop) (V : Nat → Nat → Value) : ∀ n : Nat, (∀ i, i < n → ∃ c : α, R c (V i 0) (V i 1)) → ∃ l : List α, l.length = n ∧ ∀ i (hi : i < l.length), R l[i] (V i 0) (V i 1) := by
  intro n
  induction n with
  | zero => intro _; exact ⟨[], rfl, fun i hi => by simp at hi⟩
  | succ n ih =>
    intro h
    obtain ⟨xs, h1, h2⟩ := ih (fun i hi => h i (by omega))
    obtain ⟨c, hc⟩ := h n (by omega)
    refine ⟨xs ++ [c], by simp [h1], fun i hi => ?_⟩
    by_cases hn : i < xs.length
    · rw [List.getElem_append_left hn]; exact h2 i hn
    · have : i = n := by simp at hi; omega
      subst this
      rw [List.getElem_append_right (by omega)]
      simpa [h1] using hc

theorem Arg.frames {w : World} {v : Value} (h : Arg Try.prog w 23 v) : ∃ a n cap l, v = .slice a n cap ∧ ∀ w', Below w.heap.size w w' → Hv w' a n cap l := by
  obtain ⟨a, len, cap, V, rfl, hl, hm, hs, hv⟩ := (h.rd_slice Try.underlying23).slice Try.underlying23 Try.underlying33 (by kernel_rfl) (by kernel_rfl) (by decide)
  have each : ∀ i, i < len → ∃ f : Fr, V i 0 = .int .u64 f.t ∧ V i 1 = .slice f.a f.n f.cap ∧ 0 ≤ f.t ∧ f.t ≤ 18446744073709551615 ∧ ∀ w', Below w.heap.size w w' → By w' f.a f.n f.cap f.xs := by
    intro i hi
    obtain ⟨t, ht, hw⟩ := (hv i 0 _ (by omega) rfl).int Try.underlying31
    obtain ⟨a', n', c', xs, ha, hk⟩ := (hv i 1 _ (by omega) rfl).bytes
    have := wf_u64_iff hw
    exact ⟨⟨t, a', n', c', xs⟩, ht, ha, this.1, this.2, hk⟩
  obtain ⟨l, h1, h2⟩ := list_of2 (fun (f : Fr) x y => x = .int .u64 f.t ∧ y = .slice f.a f.n f.cap ∧ 0 ≤ f.t ∧ f.t ≤ 18446744073709551615 ∧ ∀ w', Below w.heap.size w w' → By w' f.a f.n f.cap f.xs) V len each
  refine ⟨a, len, cap, l, rfl, fun w' hb => ⟨h1.symm, Seen.vw2 hl hm (hs.keep hb (Nat.le_refl _)) (by rw [Frs_length, h1]) (fun i hi => ?_), fun f hf => ?_⟩⟩
  · have hi' : i < l.length := by omega
    obtain ⟨e0, e1, _⟩ := h2 i hi'
    rw [e0, e1]
    exact Frs_get l i hi'
  · obtain ⟨i, hi, rfl⟩ := List.getElem_of_mem hf
    obtain ⟨_, _, b0, b1, hk⟩ := h2 i hi
    exact ⟨b0, b1, hk w' hb⟩

theorem Arg.sets {w : World} {v : Value} (h : Arg Try.prog w 45 v) : ∃ a n cap l, v = .slice a n cap ∧ ∀ w', Below w.heap.size w w' → Sv w' a n cap l := by
  obtain ⟨a, len, cap, V, rfl, hl, hm, hs, hv⟩ := (h.rd_slice Try.underlying45).slice Try.underlying45 Try.underlying57 (by kernel_rfl) (by kernel_rfl) (by decide)
  have each : ∀ i, i < len → ∃ f : Int × Int, V i 0 = .int .u64 f.1 ∧ V i 1 = .int .u64 f.2 ∧ inU f.1 ∧ inU f.2 := by
    intro i hi
    obtain ⟨t, ht, hw⟩ := (hv i 0 _ (by omega) rfl).int Try.underlying31
    obtain ⟨u, hu, hw2⟩ := (hv i 1 _ (by omega) rfl).int Try.underlying31
    exact ⟨(t, u), ht, hu, wf_u64_iff hw, wf_u64_iff hw2⟩
  obtain ⟨l, h1, h2⟩ := list_of2 (fun (f : Int × Int) x y => x = .int .u64 f.1 ∧ y = .int .u64 f.2 ∧ inU f.1 ∧ inU f.2) V len each
  refine ⟨a, len, cap, l, rfl, fun w' hb => ⟨h1.symm, Seen.vw2 hl hm (hs.keep hb (Nat.le_refl _)) (by rw [Ss_length, h1]) (fun i hi => ?_), fun f hf => ?_⟩⟩
  · have hi' : i < l.length := by omega
    obtain ⟨e0, e1, _⟩ := h2 i hi'
    rw [e0, e1]
    exact Ss_get l i hi'
  · obtain ⟨i, hi, rfl⟩ := List.getElem_of_mem hf
    exact (h2 i hi).2.2

/-- A frame, read back. -/
theorem frOK_le {f : Fr} (h : frOK f = true) : f.t ≤ 4611686018427387903 ∧ (f.xs.length : Int) ≤ 4611686018427387903 := by
  unfold frOK varsOK at h
  simp at h
  exact h
theorem varLenV_pos {v : Int} (h : v ≤ 4611686018427387903) : 1 ≤ varLenV v ∧ varLenV v ≤ 8 := by rcases varLenV_cases v with h | h | h | h | h <;> omega
theorem frE_eq (f : Fr) (more : List UInt8) : frE f ++ more = varE f.t ++ (varE (f.xs.length : Int) ++ (f.xs ++ more)) := by
  unfold frE
  simp [varsE]
theorem frR_frE (f : Fr) (more : List UInt8) (h0 : 0 ≤ f.t) (hok : frOK f = true) (hl : f.xs.length ≤ 16384) : frR (frE f ++ more) = (f.t, f.xs, ((frE f).length : Int), 0) := by
  obtain ⟨h1, h2⟩ := frOK_le hok
  obtain ⟨a1, a2, a3⟩ := rv_varE f.t h0 h1 (varE (f.xs.length : Int) ++ (f.xs ++ more))
  obtain ⟨b1, b2, b3⟩ := rv_varE (f.xs.length : Int) (by omega) h2 (f.xs ++ more)
  have p1 := varLenV_pos h1
  have p2 := varLenV_pos h2
  have l1 := varE_length f.t (by omega)
  have l2 := varE_length (f.xs.length : Int) (by omega)
  have hlen : (frE f).length = (varE f.t).length + (varE (f.xs.length : Int)).length + f.xs.length := by
    unfold frE
    simp [varsE]
    omega
  rw [frE_eq]
  have := frR_5 (xs := varE f.t ++ (varE (f.xs.length : Int) ++ (f.xs ++ more))) (ys := varE (f.xs.length : Int) ++ (f.xs ++ more)) (k := (varE f.t).length) (j := (varE (f.xs.length : Int)).length) (n := f.xs.length) a3 (by rw [a2, l1]) (by rw [List.drop_left]) b3 b1 (by omega) (by rw [b2, l2]) (by simp; omega)
  rw [this, a1, hlen]
  have e : (varE f.t ++ (varE (f.xs.length : Int) ++ (f.xs ++ more))).drop ((varE f.t).length + (varE (f.xs.length : Int)).length) = f.xs ++ more := by
    rw [← List.append_assoc, ← List.length_append, List.drop_left]
  rw [e, List.take_append_of_le_length (Nat.le_refl _), List.take_length]
  simp
theorem frE_pos (f : Fr) : 0 ≤ (frE f).length := Nat.zero_le _
theorem frsE_at (l : List Fr) (i : Nat) (hi : i < l.length) : frsE l = frsE (l.take i) ++ (frE l[i] ++ frsE (l.drop (i + 1))) := by
  have e : l = l.take i ++ (l[i] :: l.drop (i + 1)) := by rw [← List.drop_eq_getElem_cons hi, List.take_append_drop]
  conv => lhs; rw [e]
  unfold frsE
  rw [List.flatMap_append, List.flatMap_cons]
theorem frE_le (f : Fr) : (frE f).length ≤ 16 + f.xs.length := by
  have := varsE_two f.t (f.xs.length : Int)
  unfold frE
  simp
  omega
theorem frsE_le (l : List Fr) (h : ∀ f ∈ l, f.xs.length ≤ 200) : (frsE l).length ≤ 216 * l.length := by
  induction l with
  | nil => simp [frsE]
  | cons f l ih =>
    have h1 := frE_le f
    have h2 := h f (by simp)
    have h3 := ih (fun g hg => h g (by simp [hg]))
    have e : frsE (f :: l) = frE f ++ frsE l := by simp [frsE]
    rw [e, List.length_append, List.length_cons]
    omega

end Go.Proofs.Ytblgahhfhgdpiaa
