/- Acknowledgments: the plain law of their ranges. -/
import Derived.Test.YtgfkgmmigbpciaaQfF
namespace Go.Proofs.Ytgfkgmmigbpciaa
set_option linter.unusedSimpArgs false
set_option linter.unusedVariables false
open Go.RowKit Go.Deep

/-- Range k may stand where it stands. -/
def chkR (rs : List (Int × Int)) (k : Nat) (hk : k < rs.length) : Prop := rs[k].1 ≤ rs[k].2 ∧ rs[k].2 ≤ 4611686018427387903 ∧ (k = 0 ∨ (2 ≤ (rs[k - 1]'(by omega)).1 ∧ rs[k].2 ≤ (rs[k - 1]'(by omega)).1 - 2))

theorem chainB_iff : ∀ (rs : List (Int × Int)) (lim : Int), chainB lim rs = true ↔ ∀ k (hk : k < rs.length), rs[k].1 ≤ rs[k].2 ∧ rs[k].2 ≤ (if k = 0 then lim else (rs[k - 1]'(by omega)).1 - 2)
 | [], lim => by simp [chainB]
 | r :: rest, lim => by
  unfold chainB
  simp only [Bool.and_eq_true, decide_eq_true_eq]
  rw [chainB_iff rest (r.1 - 2)]
  constructor
  ·rintro ⟨⟨h1, h2⟩, h3⟩ k hk
   cases k with
   | zero => exact ⟨h1, by simpa using h2⟩
   | succ k =>
    have h4 := h3 k (by simpa using hk)
    refine ⟨h4.1, ?_⟩
    rw [if_neg (by omega)]
    have h5 := h4.2
    cases k with
    | zero => simpa using h5
    | succ k => simpa using h5
  ·intro h
   have h0 := (h 0 (by simp)).2
   rw [if_pos rfl] at h0
   refine ⟨⟨(h 0 (by simp)).1, h0⟩, fun k hk => ?_⟩
   have h4 := h (k + 1) (by simpa using hk)
   refine ⟨h4.1, ?_⟩
   have h5 := h4.2
   rw [if_neg (by omega)] at h5
   cases k with
   | zero => simpa using h5
   | succ k => simpa using h5

theorem chain_le {rs : List (Int × Int)} (h : ∀ k (hk : k < rs.length), chkR rs k hk) : chainB 4611686018427387903 rs = true := by
 rw [chainB_iff]
 intro k hk
 obtain ⟨h1, h2, h3⟩ := h k hk
 refine ⟨h1, ?_⟩
 split
 ·exact h2
 ·rcases h3 with h3 | h3
  ·omega
  ·exact h3.2
theorem chain_chk {rs : List (Int × Int)} (h0 : ∀ r ∈ rs, inU r.1 ∧ inU r.2) (h : chainB 4611686018427387903 rs = true) : ∀ k (hk : k < rs.length), chkR rs k hk := by
 rw [chainB_iff] at h
 intro k
 induction k with
 | zero => intro hk; have := h 0 hk; exact ⟨this.1, by simpa using this.2, .inl rfl⟩
 | succ k ih =>
  intro hk
  obtain ⟨h1, h2⟩ := h (k + 1) hk
  obtain ⟨g1, g2, _⟩ := ih (by omega)
  have n1 := (h0 _ (List.getElem_mem hk)).2.1
  rw [if_neg (by omega)] at h2
  simp only [Nat.add_sub_cancel] at h2
  refine ⟨h1, by omega, .inr ⟨?_, ?_⟩⟩
  ·simp only [Nat.add_sub_cancel]; omega
  ·simp only [Nat.add_sub_cancel]; omega
theorem ack_bad {rs : List (Int × Int)} (h0 : ∀ r ∈ rs, inU r.1 ∧ inU r.2) {k : Nat} (hk : k < rs.length) (h : ¬ chkR rs k hk) : ackOK rs = false := by
 cases hc : chainB 4611686018427387903 rs with
 | false => unfold ackOK; rw [hc, Bool.and_false]
 | true => exact absurd (chain_chk h0 hc k hk) h
theorem ack_good {rs : List (Int × Int)} (h1 : 1 ≤ rs.length) (h2 : rs.length ≤ 32) (h : ∀ k (hk : k < rs.length), chkR rs k hk) : ackOK rs = true := by
 unfold ackOK
 rw [chain_le h, decide_eq_true h1, decide_eq_true h2]
 rfl
theorem ack_len {rs : List (Int × Int)} (h : ¬ (1 ≤ rs.length ∧ rs.length ≤ 32)) : ackOK rs = false := by
 unfold ackOK
 by_cases h1 : 1 ≤ rs.length
 ·rw [decide_eq_false (show ¬ rs.length ≤ 32 by omega), Bool.and_false, Bool.false_and]
 ·rw [decide_eq_false h1, Bool.false_and, Bool.false_and]

theorem gapsL_step : ∀ (rest : List (Int × Int)) (p : Int × Int) (i : Nat) (hi : i < rest.length),
  gapsL p.1 (rest.take (i + 1)) = gapsL p.1 (rest.take i) ++ [((p :: rest)[i]'(by simp; omega)).1 - rest[i].2 - 2, rest[i].2 - rest[i].1]
 | r :: rest, p, 0, _ => by simp [gapsL]
 | r :: rest, p, i + 1, hi => by
  have hi' : i < rest.length := by simpa using hi
  have ih := gapsL_step rest r i hi'
  simp only [List.take_succ_cons, gapsL]
  rw [ih]
  simp

/-- The numbers of an acknowledgment's ranges up to one. -/
def ackN (delay : Int) (rs : List (Int × Int)) (i : Nat) : List Int := match rs with
 | [] => []
 | r :: rest => 2 :: r.2 :: delay :: (rest.length : Int) :: (r.2 - r.1) :: gapsL r.1 (rest.take i)
theorem ackN_all (delay : Int) (rs : List (Int × Int)) (i : Nat) (h : rs.length ≤ i + 1) : ackN delay rs i = ackL delay rs := by
 unfold ackN ackL
 cases rs with
 | nil => rfl
 | cons r rest =>
  show 2 :: r.2 :: delay :: (rest.length : Int) :: (r.2 - r.1) :: gapsL r.1 (rest.take i) = 2 :: r.2 :: delay :: (rest.length : Int) :: (r.2 - r.1) :: gapsL r.1 rest
  rw [List.take_of_length_le (by simpa using h)]
theorem ackN_zero (delay : Int) (rs : List (Int × Int)) (h : 0 < rs.length) : ackN delay rs 0 = ([2, rs[0].2, delay, (rs.length : Int) - 1, rs[0].2 - rs[0].1] : List Int) := by
 cases rs with
 | nil => simp at h
 | cons r rest => simp [ackN, gapsL]
theorem ackN_step (delay : Int) (rs : List (Int × Int)) (i : Nat) (h : i + 1 < rs.length) : ackN delay rs (i + 1) = ackN delay rs i ++ [(rs[i]'(by omega)).1 - rs[i + 1].2 - 2, rs[i + 1].2 - rs[i + 1].1] := by
 cases rs with
 | nil => simp at h
 | cons r rest =>
  have hi : i < rest.length := by simpa using h
  show 2 :: r.2 :: delay :: (rest.length : Int) :: (r.2 - r.1) :: gapsL r.1 (rest.take (i + 1)) = _
  rw [gapsL_step rest r i hi]
  simp [ackN]
theorem gaps_ok {rs : List (Int × Int)} (h0 : ∀ r ∈ rs, inU r.1 ∧ inU r.2) (h : ∀ k (hk : k < rs.length), chkR rs k hk) {i : Nat} (hi : i + 1 < rs.length) :
  varsOK [(rs[i]'(by omega)).1 - rs[i + 1].2 - 2, rs[i + 1].2 - rs[i + 1].1] = true ∧ 0 ≤ (rs[i]'(by omega)).1 - rs[i + 1].2 - 2 ∧ 0 ≤ rs[i + 1].2 - rs[i + 1].1 ∧ (rs[i]'(by omega)).1 ≤ 4611686018427387903 ∧ rs[i + 1].2 ≤ 4611686018427387903 ∧ 0 ≤ rs[i + 1].1 ∧ 0 ≤ rs[i + 1].2 := by
 obtain ⟨g1, g2, g3⟩ := h (i + 1) hi
 obtain ⟨k1, k2, _⟩ := h i (by omega)
 have n1 := (h0 _ (List.getElem_mem hi)).1.1
 have n2 := (h0 _ (List.getElem_mem hi)).2.1
 rcases g3 with g3 | ⟨g3, g4⟩
 ·omega
 ·simp only [Nat.add_sub_cancel] at g3 g4
  refine ⟨?_, by omega, by omega, by omega, g2, n1, n2⟩
  simp [varsOK]
  omega

end Go.Proofs.Ytgfkgmmigbpciaa
