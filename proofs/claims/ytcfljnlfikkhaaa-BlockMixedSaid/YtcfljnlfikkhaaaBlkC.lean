/- The program's blocks: New, Open, Take, comes. -/
import Derived.Test.YtcfljnlfikkhaaaBlkB
import Derived.BigQuiet
import Derived.Deep.RegionHeld3
namespace Go.Proofs.Ytcfljnlfikkhaaa
open Go.RowKit Go.Deep

theorem new_any (m : Int) (w : World) (h0 : -9223372036854775808 ≤ m) (h1 : m ≤ 9223372036854775807) :
    Calls Try.prog 7 #[.int .i64 m] w fun e w' => e = .returned (.pointer (some ⟨w.heap.size, 0, none⟩)) ∧ w' = w.alloc (.cells #[.int .i64 (if m < 0 then 0 else m), .pointer none, .pointer none] 44 (0, 0)) := by
  go_enter Try.func7, Try.ntmps7
  go_wp2_with fail
  all_goals (go_returns; exact ⟨rfl, by first | rfl | rw [if_pos (by omega)] | rw [if_neg (by omega)]⟩)

theorem PkM.new (w : World) (m : Int) (base : Nat) : base = w.heap.size + 1 → PkM base (w.alloc (.cells #[.int .i64 m, .pointer none, .pointer none] 44 (0, 0))) w.heap.size (bk0 m) := by
  rintro rfl
  exact ⟨by omega, by simp, _, _, Blk.new _ _ _, rfl, rfl⟩
theorem PkM.more {base base' : Nat} {w : World} {b : Nat} {m : Int} (h : PkM base w b (bk0 m)) (hb : base ≤ base') (hs : base' ≤ w.heap.size) : PkM base' w b (bk0 m) := by
  obtain ⟨h1, h2, o, u, h3, h4, h5⟩ := h
  exact ⟨by omega, hs, o, u, h3, h4, h5⟩

theorem open_any (base : Nat) (b : Nat) (s : Bk) (w : World) (hb : PkM base w b s) :
    Calls Try.prog 10 #[.pointer (some ⟨b, 0, none⟩)] w fun e w' => e = .returned (.bool s.opn) ∧ w = w' := by
  obtain ⟨h1, h2, o, u, h3, h4, h5⟩ := hb
  have c1 : w.cell? ⟨b, 1, none⟩ = some o := h3.cell 1
  by_cases ho : s.opn = true
  · rw [if_pos ho] at h4
    obtain ⟨p, a, n, cap, rfl, _⟩ := h4
    rw [ho]
    clear h3 h5
    go_enter Try.func10, Try.ntmps10
    go_wp2_with fail
    go_returns
    exact ⟨rfl, rfl⟩
  · rw [if_neg ho] at h4
    subst h4
    rw [show s.opn = false by simpa using ho]
    clear h3 h5
    go_enter Try.func10, Try.ntmps10
    go_wp2_with fail
    go_returns
    exact ⟨rfl, rfl⟩

theorem part_cells {w : World} {b : Nat} {v0 v1 v2 : Value} {t : TypeId} (h : Blk w b #[v0, v1, v2] t) :
    (w.cell? ⟨b, 0, none⟩ = some v0 ∧ w.cell? ⟨b, 1, none⟩ = some v1 ∧ w.cell? ⟨b, 2, none⟩ = some v2) ∧ (w.frozen? ⟨b, 0, none⟩ = false ∧ w.frozen? ⟨b, 1, none⟩ = false ∧ w.frozen? ⟨b, 2, none⟩ = false) :=
  ⟨⟨h.cell 0, h.cell 1, h.cell 2⟩, h.free 0, h.free 1, h.free 2⟩

/-- What Take answers. -/
def TkP (base : Nat) (s : Bk) (w : World) (e : Ending) (w' : World) : Prop :=
  if s.whl then ∃ a n cap, e = .returned (.tuple #[.int .u32 s.st, .slice a n cap, .bool s.fin]) ∧ By w' a n cap s.xs ∧ ∀ b, a.map (·.block) = some b → base ≤ b ∧ b < w'.heap.size
  else e = .returned (.tuple #[.int .u32 0, .slice none 0 0, .bool false])

set_option maxHeartbeats 1600000 in
theorem take_any (base : Nat) (b : Nat) (s : Bk) (w : World) (hb : PkM base w b s) (hs : s.Ok) :
    Calls Try.prog 11 #[.pointer (some ⟨b, 0, none⟩)] w fun e w' => TkP base s w e w' ∧ PkM base w' b s.took ∧ Keeps (fun k => k = b) w w' := by
  obtain ⟨h1, h2, o, u, h3, h4, h5⟩ := hb
  obtain ⟨⟨c0, c1, c2⟩, f0, f1, f2⟩ := part_cells h3
  by_cases hw : s.whl = true
  · rw [if_pos hw] at h5
    have hno : s.opn = false := by cases ho : s.opn with
      | false => rfl
      | true => have := hs.no ho; rw [hw] at this; cases this
    rw [if_neg (by rw [hno]; simp)] at h4
    subst h4
    obtain ⟨p, a, n, cap, rfl, g1, g2, g3, g4, g5⟩ := h5
    have hk : Keeps (fun k => k = b) w (w.setCell ⟨b, 2, none⟩ (.pointer none)) := (Keeps.refl _ w).put 2 _
    have G3 := hk.blk g3 (by omega)
    obtain ⟨⟨d0, d1, d2⟩, _⟩ := part_cells G3
    have HG4 := Lib.hid (g4.keep hk (fun b' hb' e => by have := (g5 b' hb').1; omega))
    have H3 : Hid (Blk (w.setCell ⟨b, 2, none⟩ (.pointer none)) b #[.int .i64 s.most, .pointer none, .pointer none] 44) := Lib.hid ((h3.set 2 (.pointer none)).as rfl)
    have HK := Lib.hid hk
    have H2 := Lib.hid h2
    have HG5 := Lib.hid g5
    clear h3 g3 g4 G3 hk h2 g5
    go_enter Try.func11, Try.ntmps11
    go_wp2_with fail
    go_quiet (fail)
    go_wp2_with fail
    go_returns
    refine ⟨?_, ⟨h1, Nat.le_trans H2.out HK.out.size, _, _, H3.out.drewN _, ?_, rfl⟩, HK.out.drewN _⟩
    · unfold TkP; rw [if_pos hw]; exact ⟨a, n, cap, rfl, ⟨HG4.out.1, HG4.out.2.drewN _⟩, fun b' hb' => ⟨(HG5.out b' hb').1, Nat.lt_of_lt_of_le (HG5.out b' hb').2 HK.out.size⟩⟩
    · show (if s.opn then _ else _)
      rw [if_neg (by rw [hno]; simp)]
  · rw [if_neg hw] at h5
    subst h5
    have HB : Hid (PkM base w b s.took) := ⟨h1, h2, o, .pointer none, h3, h4, by show (if false then _ else _); rfl⟩
    clear h3 h4
    go_enter Try.func11, Try.ntmps11
    go_wp2_with fail
    go_returns
    exact ⟨by unfold TkP; rw [if_neg hw]; rfl, HB.out, Keeps.refl _ _⟩

set_option maxHeartbeats 1600000 in
theorem comes_any (base : Nat) (b : Nat) (s : Bk) (t fl st : Int) (fa : Option Addr) (fn fc : Nat) (w : World) (hb : PkM base w b s) :
    Calls Try.prog 15 #[.pointer (some ⟨b, 0, none⟩), FrV t fl st fa fn fc] w fun e w' => e = .returned (.tuple #[.bool (s.may t st), .bool (s.says t)]) ∧ Below w.heap.size w w' := by
  obtain ⟨h1, h2, o, u, h3, h4, h5⟩ := hb
  have hal := Below.alloc (Below.refl w.heap.size w) (Nat.le_refl _) (.cells #[.int .u8 t, .int .u8 fl, .int .u32 st, .slice fa fn fc] 33 (0, 0))
  have HAL := Lib.hid hal
  have hbl := h3.alloc (.cells #[.int .u8 t, .int .u8 fl, .int .u32 st, .slice fa fn fc] 33 (0, 0))
  obtain ⟨⟨c0, c1, c2⟩, _⟩ := part_cells hbl
  unfold FrV
  by_cases ho : s.opn = true
  · rw [if_pos ho] at h4
    obtain ⟨p, a, n, cap, rfl, g1, g2, g3, g4, g5⟩ := h4
    have hpl := g3.alloc (.cells #[.int .u8 t, .int .u8 fl, .int .u32 st, .slice fa fn fc] 33 (0, 0))
    obtain ⟨⟨d0, d1, d2⟩, _⟩ := part_cells hpl
    clear h3 h5 hbl hpl g3 g4 hal
    have HM : Hid (s.may t st = (t == 9 && st == s.st)) := by show _ = _; unfold Bk.may; rw [if_pos ho]
    have HS : Hid (s.says t = true) := by show _ = _; unfold Bk.says; rw [if_pos ho]
    by_cases h9 : (t == 9) = true
    · go_enter Try.func15, Try.ntmps15
      go_wp2_with fail
      go_quiet (fail)
      go_wp2_with fail
      go_returns
      exact ⟨by rw [HM.out, HS.out]; simp [h9], Below.drewN' HAL.out _⟩
    · have h9' : (t == 9) = false := by simpa using h9
      go_enter Try.func15, Try.ntmps15
      go_wp2_with fail
      go_quiet (fail)
      go_wp2_with fail
      go_returns
      exact ⟨by rw [HM.out, HS.out]; simp [h9'], Below.drewN' HAL.out _⟩
  · rw [if_neg ho] at h4
    subst h4
    have HM : Hid (s.may t st = (t != 9)) := by show _ = _; unfold Bk.may; rw [if_neg ho]
    have HS : Hid (s.says t = (t == 1)) := by show _ = _; unfold Bk.says; rw [if_neg ho]
    clear h3 h5 hbl hal
    go_enter Try.func15, Try.ntmps15
    go_wp2_with fail
    go_quiet (fail)
    go_wp2_with fail
    go_returns
    exact ⟨by rw [HM.out, HS.out]; rfl, Below.drewN' HAL.out _⟩

end Go.Proofs.Ytcfljnlfikkhaaa
