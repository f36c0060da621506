/- Settings in memory, and whether two lists of them are one (bifoldhelp). -/
import Derived.Test.YtblgahhfhgdpiaaH3B
namespace Go.Proofs.Ytblgahhfhgdpiaa
open Go.RowKit Go.Deep

def Ss : List (Int × Int) → List Value
  | [] => []
  | p :: l => .int .u64 p.1 :: .int .u64 p.2 :: Ss l
theorem Ss_length (l : List (Int × Int)) : (Ss l).length = l.length * 2 := by induction l with
  | nil => rfl
  | cons f l ih => simp [Ss, ih]; omega
theorem Ss_get (l : List (Int × Int)) : ∀ (i : Nat) (hi : i < l.length), (Ss l)[i * 2]? = some (.int .u64 l[i].1) ∧ (Ss l)[i * 2 + 1]? = some (.int .u64 l[i].2) := by
  induction l with
  | nil => intro i hi; simp at hi
  | cons f l ih =>
    intro i hi
    cases i with
    | zero => exact ⟨rfl, rfl⟩
    | succ i =>
      have := ih i (by simpa using hi)
      simp only [Ss, show (i + 1) * 2 = i * 2 + 1 + 1 by omega, List.getElem?_cons_succ, List.getElem_cons_succ]
      exact this
theorem Ss_append (l m : List (Int × Int)) : Ss l ++ Ss m = Ss (l ++ m) := by induction l with
  | nil => rfl
  | cons f l ih => simp [Ss, ih]
def inU (x : Int) : Prop := 0 ≤ x ∧ x ≤ 18446744073709551615
/-- A slice of settings in memory. -/
def Sv (w : World) (a : Option Addr) (n cap : Nat) (l : List (Int × Int)) : Prop := n = l.length ∧ Vw w a n cap 2 (Ss l) ∧ ∀ f ∈ l, inU f.1 ∧ inU f.2
theorem Sv.get {w : World} {a : Option Addr} {n cap : Nat} {l : List (Int × Int)} (h : Sv w a n cap l) (hn : 0 < n) :
    ∃ b off, a = some ⟨b, off, none⟩ ∧ b < w.heap.size ∧ ∀ i (hi : i < l.length), w.cell? ⟨b, off + i * 2, none⟩ = some (.int .u64 l[i].1) ∧ w.cell? ⟨b, off + i * 2 + 1, none⟩ = some (.int .u64 l[i].2) := by
  rcases h.2.1.at_ with h0 | ⟨b, off, ha, hb, hc⟩
  · have h1 := Ss_length l
    rw [h0] at h1
    have := h.1
    simp at h1
    omega
  · refine ⟨b, off, ha, hb, fun i hi => ⟨hc _ _ (Ss_get l i hi).1, ?_⟩⟩
    have := hc _ _ (Ss_get l i hi).2
    rwa [← Nat.add_assoc] at this

set_option maxHeartbeats 400000 in
theorem helpset_any (a : Option Addr) (n cap : Nat) (l : List (Int × Int)) (a2 : Option Addr) (n2 cap2 : Nat) (l2 : List (Int × Int)) (w : World) (h1 : Sv w a n cap l) (h2 : Sv w a2 n2 cap2 l2) :
    Calls Try.prog 22 #[.slice a n cap, .slice a2 n2 cap2] w fun e w' => e = .returned (.bool (decide (l = l2))) ∧ ∃ q, w' = w.drewN q := by
  have c1 := h1.2.1.le
  have c2 := h1.2.1.max
  have c3 := h2.2.1.le
  have c4 := h2.2.1.max
  unfold maxLen at c2 c4
  have H1 := Lib.hid h1
  have H2 := Lib.hid h2
  have N1 := Lib.hid h1.1
  have N2 := Lib.hid h2.1
  clear h1 h2
  by_cases hn : n = n2
  · subst hn
    go_enter Try.func22, Try.ntmps22
    go_wp2_with fail
    have hn0 : ((n : Int) == (n : Int)) = true := by simp
    go_loopg [5] n (fun k vi wr => ∃ (i : Nat), k + i = n ∧ vi = .int .i64 i ∧ l.take i = l2.take i ∧ ∃ q, wr = w.drewN q)
    case atStart => exact ⟨0, by omega, rfl, by simp, 0, rfl⟩
    case round =>
      obtain ⟨i, hi, rfl, ht, q, rfl⟩ := hrel
      have HI := Lib.hid hi
      have HT := Lib.hid ht
      clear hi ht
      by_cases hik : i < n
      · have hix1 : i < l.length := by have := N1.out; omega
        have hix2 : i < l2.length := by have := N2.out; omega
        obtain ⟨b1, o1, rfl, hb1, g1⟩ := H1.out.get (by omega)
        obtain ⟨b2, o2, rfl, hb2, g2⟩ := H2.out.get (by omega)
        obtain ⟨p1, p2⟩ := g1 i hix1
        obtain ⟨q1, q2⟩ := g2 i hix2
        have r1 : (w.drewN q).cell? ⟨b1, o1 + i * 2, none⟩ = some (.int .u64 l[i].1) := p1
        have r2 : (w.drewN q).cell? ⟨b1, o1 + i * 2 + 1, none⟩ = some (.int .u64 l[i].2) := p2
        have r3 : (w.drewN q).cell? ⟨b2, o2 + i * 2, none⟩ = some (.int .u64 l2[i].1) := q1
        have r4 : (w.drewN q).cell? ⟨b2, o2 + i * 2 + 1, none⟩ = some (.int .u64 l2[i].2) := q2
        clear g1 g2
        have hiI : (i : Int) < (n : Int) := by omega
        have hi0 : (0 : Int) ≤ (i : Int) := by omega
        by_cases hs1 : l[i].1 = l2[i].1
        · by_cases hs2 : l[i].2 = l2[i].2
          · have HEQ : Hid (l[i] = l2[i]) := Prod.ext hs1 hs2
            go_wp2_with fail
            go_region
            go_wp2_with fail
            obtain ⟨k', rfl⟩ : ∃ k', gk = k' + 1 := ⟨gk - 1, by have := HI.out; omega⟩
            go_roundg k'
            case measure => omega
            case rel => exact ⟨i + 1, by have := HI.out; omega, by go_num, by rw [List.take_succ_eq_append_getElem hix1, List.take_succ_eq_append_getElem hix2, HT.out, HEQ.out], q + 1, rfl⟩
          · have HE : Hid (decide (l = l2) = false) := by show _ = _; simp only [decide_eq_false_iff_not]; intro e; subst e; exact hs2 rfl
            go_wp2_with fail
            go_region
            go_wp2_with fail
            go_returns
            exact ⟨by rw [HE.out]; rfl, q + 1, rfl⟩
        · have HE : Hid (decide (l = l2) = false) := by show _ = _; simp only [decide_eq_false_iff_not]; intro e; subst e; exact hs1 rfl
          go_wp2_with fail
          go_region
          go_wp2_with fail
          go_returns
          exact ⟨by rw [HE.out]; rfl, q + 1, rfl⟩
      · have HE : Hid (decide (l = l2) = true) := by
          show _ = _
          have h1 := HT.out
          have h2 := HI.out
          rw [List.take_of_length_le (by have := N1.out; omega), List.take_of_length_le (by have := N2.out; omega)] at h1
          simpa using h1
        go_wp2_with fail
        go_returns
        exact ⟨by rw [HE.out]; rfl, q, rfl⟩
  · have HE : Hid (decide (l = l2) = false) := by show _ = _; simp only [decide_eq_false_iff_not]; intro e; subst e; have := N1.out; have := N2.out; omega
    go_enter Try.func22, Try.ntmps22
    go_wp2_with fail
    go_returns
    exact ⟨by rw [HE.out]; rfl, 0, rfl⟩

end Go.Proofs.Ytblgahhfhgdpiaa
