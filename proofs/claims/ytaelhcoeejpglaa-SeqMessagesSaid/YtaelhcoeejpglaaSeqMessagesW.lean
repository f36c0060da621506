/- The walk of SeqMessages. -/
import Derived.Test.YtaelhcoeejpglaaSeqD
namespace Go.Proofs.Ytaelhcoeejpglaa
open Go.RowKit Go.Deep

/-- What holds of a stream's state, the rule that it broke, the headers that came, and whether it may be whole. -/
def Good (s r h : Int) (ok : Bool) : Prop :=
  (r = 0 ∧ ok = true ∧ ((s = 0 ∧ h = 0) ∨ (s = 1 ∧ h = 1) ∨ (s = 2 ∧ h = 1) ∨ (s = 3 ∧ h = 2))) ∨ (r ≠ 0 ∧ ok = false ∧ 0 ≤ s ∧ s ≤ 3 ∧ 0 ≤ h)

theorem good_wf {s r h : Int} {ok : Bool} (g : Good s r h ok) : (Lit.int .i64 s).wf = true := by
  have : 0 ≤ s ∧ s ≤ 3 := by rcases g with ⟨_, _, h | h | h | h⟩ | ⟨_, _, h⟩ <;> omega
  simp [Lit.wf, IntKind.min, IntKind.max, IntKind.signed, IntKind.bits]
  omega

theorem req_range {s t : Int} (h0 : 0 ≤ s) (h3 : s ≤ 3) : 0 ≤ (req s t).1 ∧ (req s t).1 ≤ 3 := by
  unfold req
  rw [if_neg (by omega)]
  cases hm : reqMap s t with
  | none => dsimp only; split <;> exact ⟨h0, h3⟩
  | some v =>
    dsimp only
    unfold reqMap at hm
    split at hm
    · cases hm; decide
    split at hm
    · cases hm; decide
    split at hm
    · cases hm; decide
    split at hm
    · cases hm; decide
    split at hm
    · cases hm; decide
    · cases hm

/-- A frame of type 1, 0, 33 or 64. -/
theorem good_heads {s r h : Int} {ok : Bool} (g : Good s r h ok) : Good (req s 1).1 (if r = 0 then (req s 1).2 else r) (h + 1) (ok && decide (h + 1 ≤ 2)) := by
  rcases g with ⟨rfl, rfl, ⟨rfl, rfl⟩ | ⟨rfl, rfl⟩ | ⟨rfl, rfl⟩ | ⟨rfl, rfl⟩⟩ | ⟨hr, rfl, h0, h3, hh⟩
  · exact .inl ⟨rfl, rfl, .inr (.inl ⟨rfl, rfl⟩)⟩
  · exact .inl ⟨rfl, rfl, .inr (.inr (.inr ⟨rfl, rfl⟩))⟩
  · exact .inl ⟨rfl, rfl, .inr (.inr (.inr ⟨rfl, rfl⟩))⟩
  · exact .inr ⟨by decide, by decide, by decide, by decide, by decide⟩
  · rw [if_neg hr]
    have := req_range (t := 1) h0 h3
    exact .inr ⟨hr, rfl, this.1, this.2, by omega⟩
theorem good_data {s r h : Int} {ok : Bool} (g : Good s r h ok) : Good (req s 0).1 (if r = 0 then (req s 0).2 else r) h (ok && h == 1) := by
  rcases g with ⟨rfl, rfl, ⟨rfl, rfl⟩ | ⟨rfl, rfl⟩ | ⟨rfl, rfl⟩ | ⟨rfl, rfl⟩⟩ | ⟨hr, rfl, h0, h3, hh⟩
  · exact .inr ⟨by decide, by decide, by decide, by decide, by decide⟩
  · exact .inl ⟨rfl, rfl, .inr (.inr (.inl ⟨rfl, rfl⟩))⟩
  · exact .inl ⟨rfl, rfl, .inr (.inr (.inl ⟨rfl, rfl⟩))⟩
  · exact .inr ⟨by decide, by decide, by decide, by decide, by decide⟩
  · rw [if_neg hr]
    have := req_range (t := 0) h0 h3
    exact .inr ⟨hr, rfl, this.1, this.2, hh⟩
theorem good_other {s r h t : Int} {ok : Bool} (ht : t = 33 ∨ t = 64) (g : Good s r h ok) : Good (req s t).1 (if r = 0 then (req s t).2 else r) h ok := by
  have hreq : ∀ s, 0 ≤ s → s ≤ 3 → req s t = (s, 0) := fun s h0 h3 => by
    unfold req
    rw [if_neg (by omega)]
    have : reqMap s t = none := by unfold reqMap; rw [if_neg (by omega), if_neg (by omega), if_neg (by omega), if_neg (by omega), if_neg (by omega)]
    rw [this]
    rcases ht with rfl | rfl <;> rfl
  rcases g with ⟨rfl, rfl, g⟩ | ⟨hr, rfl, h0, h3, hh⟩
  · have hs : 0 ≤ s ∧ s ≤ 3 := by omega
    rw [hreq s hs.1 hs.2]
    exact .inl ⟨rfl, rfl, g⟩
  · rw [if_neg hr, hreq s h0 h3]
    exact .inr ⟨hr, rfl, h0, h3, hh⟩

set_option maxRecDepth 8000 in
set_option maxHeartbeats 6400000 in
theorem walkSeqMessages (w : World) (v0 : Value) (h0 : Arg Try.prog w 22 v0) :
    Calls Try.prog 3 #[v0] w fun e w' => e = .returned (.bool true) ∧ Below w.heap.size w w' := by
  obtain ⟨a, m, cap, xs, rfl, hby, hkeep⟩ := h0.bytes
  have HKEEP := Lib.hid hkeep
  clear hby hkeep h0
  go_enter Try.func3, Try.ntmps3
  go_wp2_with fail
  refine (known_any w).mono ?_
  rintro e w1 ⟨rfl, hk1⟩
  have HK := Lib.hid hk1
  clear hk1
  by_cases h30 : 30 < m
  · go_wp2_with fail
    go_returns
    exact ⟨rfl, HK.out⟩
  · go_wp2_with fail
    go_loopg [3, 4, 5, 6, 7] m (fun k vs vr vo vh vi wr => ∃ (i : Nat) (s r h : Int) (ok : Bool), k + i = m ∧ vi = .int .i64 i ∧ vs = .int .i64 s ∧ vr = .int .i64 r ∧ vo = .bool ok ∧ vh = .int .i64 h ∧ Good s r h ok ∧ 0 ≤ h ∧ h ≤ i ∧ Below w.heap.size w wr)
    case atStart => exact ⟨0, 0, 0, 0, true, by omega, rfl, rfl, rfl, rfl, rfl, .inl ⟨rfl, rfl, .inl ⟨rfl, rfl⟩⟩, by omega, by omega, HK.out⟩
    case round =>
      obtain ⟨i, s, r, h, ok, hi, rfl, rfl, rfl, rfl, rfl, hg, h0, hh, hkr⟩ := hrel
      have HI := Lib.hid hi
      have HG := Lib.hid hg
      have HKR := Lib.hid hkr
      have HB := Lib.hid (HKEEP.out wr hkr)
      have hml := HB.out.1
      have HML := Lib.hid hml
      clear hi hg hkr HK hml
      by_cases hlt : i < m
      · have hi' : i < xs.length := by rw [← HML.out]; exact hlt
        obtain ⟨b, off, rfl, hb, hcell⟩ := HB.out.get (by omega)
        have hc := hcell i hi'
        have hc8 : xs[i].toNat < 256 := xs[i].toNat_lt
        generalize xs[i].toNat = c at hc hc8
        have hca : (wr.alloc (.cells #[.int .u64 1, .int .u64 0, .int .u64 33, .int .u64 64] 24 (0, 0))).cell? ⟨b, off + i, none⟩ = some (.int .u8 (c : Int)) := by rw [World.cell?_alloc_old _ _ _ (by show b ≠ _; omega)]; exact hc
        have HK2 := Lib.hid (HKR.out.alloc HKR.out.size (.cells #[.int .u64 1, .int .u64 0, .int .u64 33, .int .u64 64] 24 (0, 0)))
        clear hcell hb
        rcases (show (c : Int) % 4 = 0 ∨ (c : Int) % 4 = 1 ∨ (c : Int) % 4 = 2 ∨ (c : Int) % 4 = 3 by omega) with h4 | h4 | h4 | h4
        · -- type 1
          have hg2 := good_heads HG.out
          obtain ⟨r2, hr2⟩ : ∃ r2, (if r = 0 then (req s 1).2 else r) = r2 := ⟨_, rfl⟩
          rw [hr2] at hg2
          have HG2 := Lib.hid hg2
          have HR2 := Lib.hid hr2
          clear hg2 hr2
          by_cases hr0 : r = 0 <;> cases ok <;> by_cases hq : h + 1 ≤ 2
          all_goals
            have hq2 := Lib.hid hq
            go_wp2_with (first | (go_at_call 6; refine (request_any _ _ _ _ (good_wf HG.out) (by decide)).mono ?_; rintro e w3 ⟨rfl, hk3⟩; have HK3 := Lib.hid (HK2.out.trans (hk3.mono HK2.out.size)); clear hk3; dsimp only) | (go_roundg (m - (i + 1)); refine ⟨i + 1, _, r2, _, _, by omega, by go_num, rfl, ?_, rfl, rfl, (by simpa [hq2.out] using HG2.out), by omega, by omega, HK3.out⟩))
          all_goals first
            | (have := HI.out; omega)
            | (first | (rw [← HR2.out, if_pos hr0]) | (rw [← HR2.out, if_neg hr0]))
            | trace_state
        · -- type 0
          have hg2 := good_data HG.out
          obtain ⟨r2, hr2⟩ : ∃ r2, (if r = 0 then (req s 0).2 else r) = r2 := ⟨_, rfl⟩
          rw [hr2] at hg2
          have HG2 := Lib.hid hg2
          have HR2 := Lib.hid hr2
          clear hg2 hr2
          by_cases hr0 : r = 0 <;> cases ok <;> by_cases hq : h = 1
          all_goals
            have hq2 := Lib.hid hq
            go_wp2_with (first | (go_at_call 6; refine (request_any _ _ _ _ (good_wf HG.out) (by decide)).mono ?_; rintro e w3 ⟨rfl, hk3⟩; have HK3 := Lib.hid (HK2.out.trans (hk3.mono HK2.out.size)); clear hk3; dsimp only) | (go_roundg (m - (i + 1)); refine ⟨i + 1, _, r2, _, _, by omega, by go_num, rfl, ?_, rfl, rfl, (by simpa [hq2.out] using HG2.out), by omega, by omega, HK3.out⟩))
          all_goals first
            | (have := HI.out; omega)
            | (first | (rw [← HR2.out, if_pos hr0]) | (rw [← HR2.out, if_neg hr0]))
            | trace_state
        · -- type 33
          have hg2 := good_other (.inl rfl) HG.out
          obtain ⟨r2, hr2⟩ : ∃ r2, (if r = 0 then (req s 33).2 else r) = r2 := ⟨_, rfl⟩
          rw [hr2] at hg2
          have HG2 := Lib.hid hg2
          have HR2 := Lib.hid hr2
          clear hg2 hr2
          by_cases hr0 : r = 0
          all_goals
            go_wp2_with (first | (go_at_call 6; refine (request_any _ _ _ _ (good_wf HG.out) (by decide)).mono ?_; rintro e w3 ⟨rfl, hk3⟩; have HK3 := Lib.hid (HK2.out.trans (hk3.mono HK2.out.size)); clear hk3; dsimp only) | (go_roundg (m - (i + 1)); refine ⟨i + 1, _, r2, _, _, by omega, by go_num, rfl, ?_, rfl, rfl, HG2.out, by omega, by omega, HK3.out⟩))
          all_goals first
            | (have := HI.out; omega)
            | (first | (rw [← HR2.out, if_pos hr0]) | (rw [← HR2.out, if_neg hr0]))
            | trace_state
        · -- type 64
          have hg2 := good_other (.inr rfl) HG.out
          obtain ⟨r2, hr2⟩ : ∃ r2, (if r = 0 then (req s 64).2 else r) = r2 := ⟨_, rfl⟩
          rw [hr2] at hg2
          have HG2 := Lib.hid hg2
          have HR2 := Lib.hid hr2
          clear hg2 hr2
          by_cases hr0 : r = 0
          all_goals
            go_wp2_with (first | (go_at_call 6; refine (request_any _ _ _ _ (good_wf HG.out) (by decide)).mono ?_; rintro e w3 ⟨rfl, hk3⟩; have HK3 := Lib.hid (HK2.out.trans (hk3.mono HK2.out.size)); clear hk3; dsimp only) | (go_roundg (m - (i + 1)); refine ⟨i + 1, _, r2, _, _, by omega, by go_num, rfl, ?_, rfl, rfl, HG2.out, by omega, by omega, HK3.out⟩))
          all_goals first
            | (have := HI.out; omega)
            | (first | (rw [← HR2.out, if_pos hr0]) | (rw [← HR2.out, if_neg hr0]))
            | trace_state
      · have him : i = m := by have := HI.out; omega
        subst him
        rcases HG.out with ⟨rfl, rfl, hs⟩ | ⟨hr, rfl, hs⟩
        · rcases hs with ⟨rfl, rfl⟩ | ⟨rfl, rfl⟩ | ⟨rfl, rfl⟩ | ⟨rfl, rfl⟩
          all_goals
            go_wp2_with (first | (go_at_call 7; refine (end_any _ _).mono ?_; rintro e w3 ⟨rfl, rfl⟩; dsimp only) | (go_returns; exact ⟨rfl, HKR.out⟩))
        · have hr1 : (r == 0) = false := by simpa using hr
          have HRR := Lib.hid hr
          clear hs hr
          go_wp2_with (go_returns; exact ⟨rfl, HKR.out⟩)

end Go.Proofs.Ytaelhcoeejpglaa
