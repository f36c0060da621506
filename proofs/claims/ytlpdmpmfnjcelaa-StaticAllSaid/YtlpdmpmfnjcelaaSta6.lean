/- The tables' entries, and where a field stands in them: H2, H3, FindH2, FindH3. -/
import Derived.Test.YtlpdmpmfnjcelaaSta1
import Derived.Test.YtlpdmpmfnjcelaaSta2
import Derived.Test.YtlpdmpmfnjcelaaSta5
import Derived.Deep.RegionHeld3
namespace Go.Proofs.Ytlpdmpmfnjcelaa
open Go.RowKit Go.Deep Go.ChangeShapes Go.WideShapes

theorem tab2_len : tab2.length = 61 := by decide +kernel
theorem tabL_len : tabL.length = 50 := by decide +kernel
theorem tabH_len : tabH.length = 49 := by decide +kernel
theorem tab3_len : tab3.length = 99 := by unfold tab3; rw [List.length_append, tabL_len, tabH_len]

/-- What the walk wants of a field's block that it writes whole. -/
theorem field_cells {w : World} {b : Nat} {u v : Value} {t : TypeId} (h : Blk w b #[u, v] t) (x y : Value) :
    w.cell? ⟨b, 0, none⟩ = some u ∧ w.cell? ⟨b, 1, none⟩ = some v ∧ w.frozen? ⟨b, 0, none⟩ = false ∧ w.frozen? ⟨b, 1, none⟩ = false ∧
    (w.setCell ⟨b, 0, none⟩ x).cell? ⟨b, 0, none⟩ = some x ∧ ((w.setCell ⟨b, 0, none⟩ x).setCell ⟨b, 1, none⟩ y).cell? ⟨b, 1, none⟩ = some y := by
  refine ⟨by rw [h.cell]; rfl, by rw [h.cell]; rfl, h.free 0, h.free 1, by rw [(h.set 0 x).cell]; rfl, by rw [((h.set 0 x).set 1 y).cell]; rfl⟩

theorem Fv.src {w : World} {a : Option Addr} {n cap : Nat} {l : List Fd} (h : Fv w a n cap l) : Src Try.prog 2 30 (.slice a n cap) n (Fs l) w := h.2.src Try.underlying30 (Fs_one l)

set_option maxHeartbeats 800000 in
theorem two_any (w : World) : Calls Try.prog 17 #[] w fun e w' => ∃ a n cap, e = .returned (.slice a n cap) ∧ Fo w.heap.size w' a n cap tab3 ∧ Below w.heap.size w w' := by
  obtain ⟨i0, hi, hz0, hz1, hz2⟩ := info_parts infoF
  have HI := Lib.hid hi
  have HZ0 := Lib.hid hz0
  have HZ1 := Lib.hid hz1
  have HZ2 := Lib.hid hz2
  clear hi hz0 hz1 hz2
  go_enter Try.func17, Try.ntmps17
  go_wp2_with fail
  refine (low_any w).mono ?_
  rintro e w1 ⟨a1, n1, c1, rfl, ho1, hk1⟩
  have hn1 : n1 = 50 := ho1.1.trans tabL_len
  subst hn1
  have HO1 := Lib.hid ho1
  have HK1 := Lib.hid hk1
  clear ho1 hk1
  go_wp2_with fail
  refine (high_any w1).mono ?_
  rintro e w2 ⟨a2, n2, c2, rfl, ho2, hk2⟩
  have hn2 : n2 = 49 := ho2.1.trans tabH_len
  subst hn2
  have HO1b := Lib.hid (HO1.out.below hk2)
  have HO2 := Lib.hid ho2
  have HK2 := Lib.hid (HK1.out.trans (hk2.mono HK1.out.size))
  have hs2 : w.heap.size ≤ w2.heap.size := HK2.out.size
  clear ho2 hk2
  go_wp2_with (at_builtin; refine halt ?_)
  refine Halted.go (wpList_app w2 rfl _ _ 30 30 rfl w.heap.size 26 i0 _ 2 32 Try.underlying30 HI.out HZ0.out HZ1.out HZ2.out rfl a1 50 c1 (Fs tabL) rfl (.inl HO1b.out.2) (.slice a2 49 c2) rfl 49 (Fs tabH) HO2.out.fv.src (by unfold maxLen; omega) (by omega) hs2 ?_)
  intro a3 c3 w3 hd3 hk3 hn3 hown3 _
  have hfo : Fo w.heap.size w3 a3 99 c3 tab3 := ⟨tab3_len.symm, by have h := hown3 (by omega); rwa [Fs_append] at h⟩
  have HFO := Lib.hid hfo
  have HK3 := Lib.hid (Keeps.mine_below HK2.out hk3 HK2.out.size (Nat.le_refl _))
  clear hd3 hk3 hn3 hown3 hfo
  go_wp2_with fail
  go_returns
  exact ⟨a3, 99, c3, rfl, HFO.out, HK3.out⟩

/-- Entry i of HPACK's table, from 1 on. -/
def h2F (i : Nat) : Fd × Bool := if i = 0 then (([], []), false) else atF tab2 (i - 1)

set_option maxHeartbeats 800000 in
theorem h2_any (i : Nat) (w : World) (hi : i ≤ 18446744073709551615) :
    Calls Try.prog 7 #[.int .u64 i] w fun e w' => e = .returned (.tuple #[FdV (h2F i).1, .bool (h2F i).2]) ∧ Below w.heap.size w w' := by
  by_cases h0 : i = 0
  · subst h0
    go_enter Try.func7, Try.ntmps7
    go_wp2_with fail
    go_returns
    exact ⟨rfl, (Below.refl _ _).alloc (Nat.le_refl _) _⟩
  · obtain ⟨k, rfl⟩ : ∃ k, i = k + 1 := ⟨i - 1, by omega⟩
    have hsub : ((k + 1 : Nat) : Int) - 1 = (k : Int) := by omega
    have hne : (((k + 1 : Nat) : Int) == 0) = false := by simp; omega
    have HE : Hid (h2F (k + 1) = atF tab2 k) := by show _ = _; unfold h2F; rw [if_neg h0]; rfl
    clear h0
    go_enter Try.func7, Try.ntmps7
    go_wp2_with fail
    refine (one_any _).mono ?_
    rintro e w1 ⟨a1, n1, c1, rfl, ho1, hk1⟩
    have hb1 := (Below.keeps hk1).blk (Blk.new w #[.string ⟨#[]⟩, .string ⟨#[]⟩] 26) (by simp)
    have HB1 := Lib.hid hb1
    have HO1 := Lib.hid ho1
    have HK1 := Lib.hid (((Below.refl w.heap.size w).alloc (Nat.le_refl _) (.cells #[.string ⟨#[]⟩, .string ⟨#[]⟩] 26 (0, 0))).trans (hk1.mono (by simp)))
    have hs1 : w.heap.size + 1 ≤ w1.heap.size := by have := hk1.size; simp at this; exact this
    clear ho1 hk1 hb1
    go_wp2_with fail
    refine (at_any a1 n1 c1 tab2 k w1 HO1.out.fv (by omega)).mono ?_
    rintro e w2 ⟨rfl, hk2⟩
    have HB2 := Lib.hid ((Below.keeps hk2).blk HB1.out (by omega))
    have HK2 := Lib.hid (HK1.out.trans (hk2.mono (by omega)))
    clear hk2
    generalize atF tab2 k = r at *
    obtain ⟨⟨r1, r2⟩, ok⟩ := r
    obtain ⟨z1, z2, z3, z4, z5, z6⟩ := field_cells HB2.out (.string ⟨r1.toArray⟩) (.string ⟨r2.toArray⟩)
    unfold FdV
    simp only
    go_wp2_with fail
    (try simp only [Exit.inBlock, Exit.then])
    refine bodyPost_ret (by simp [results, Try.results7, go_sem, z5, z6]; try rfl) rfl ?_
    rw [HE.out]
    exact ⟨rfl, (HK2.out.setCell (Nat.le_refl _) _).setCell (Nat.le_refl _) _⟩

set_option maxHeartbeats 800000 in
theorem h3_any (i : Nat) (w : World) (hi : i ≤ 18446744073709551615) :
    Calls Try.prog 10 #[.int .u64 i] w fun e w' => e = .returned (.tuple #[FdV (atF tab3 i).1, .bool (atF tab3 i).2]) ∧ Below w.heap.size w w' := by
    go_enter Try.func10, Try.ntmps10
    go_wp2_with fail
    refine (two_any _).mono ?_
    rintro e w1 ⟨a1, n1, c1, rfl, ho1, hk1⟩
    have hb1 := (Below.keeps hk1).blk (Blk.new w #[.string ⟨#[]⟩, .string ⟨#[]⟩] 26) (by simp)
    have HB1 := Lib.hid hb1
    have HO1 := Lib.hid ho1
    have HK1 := Lib.hid (((Below.refl w.heap.size w).alloc (Nat.le_refl _) (.cells #[.string ⟨#[]⟩, .string ⟨#[]⟩] 26 (0, 0))).trans (hk1.mono (by simp)))
    have hs1 : w.heap.size + 1 ≤ w1.heap.size := by have := hk1.size; simp at this; exact this
    clear ho1 hk1 hb1
    go_wp2_with fail
    refine (at_any a1 n1 c1 tab3 i w1 HO1.out.fv (by omega)).mono ?_
    rintro e w2 ⟨rfl, hk2⟩
    have HB2 := Lib.hid ((Below.keeps hk2).blk HB1.out (by omega))
    have HK2 := Lib.hid (HK1.out.trans (hk2.mono (by omega)))
    clear hk2
    generalize hra : atF tab3 i = r at *
    have HRA := Lib.hid hra
    clear hra
    obtain ⟨⟨r1, r2⟩, ok⟩ := r
    obtain ⟨z1, z2, z3, z4, z5, z6⟩ := field_cells HB2.out (.string ⟨r1.toArray⟩) (.string ⟨r2.toArray⟩)
    unfold FdV
    simp only
    go_wp2_with fail
    (try simp only [Exit.inBlock, Exit.then])
    refine bodyPost_ret (by simp [results, Try.results10, go_sem, z5, z6]; try rfl) rfl ?_
    rw [HRA.out]
    exact ⟨rfl, (HK2.out.setCell (Nat.le_refl _) _).setCell (Nat.le_refl _) _⟩

/-- Where a field stands in HPACK's table: its number, from 1 on. -/
def findH2 (f : Fd) : Int × Bool × Bool := if (findS tab2 f).2.1 = true then ((findS tab2 f).1 + 1, (findS tab2 f).2.1, (findS tab2 f).2.2) else (0, false, false)

set_option maxHeartbeats 1600000 in
theorem findh2_any (f : Fd) (w : World) :
    Calls Try.prog 12 #[FdV f] w fun e w' => e = .returned (.tuple #[.int .u64 (findH2 f).1, .bool (findH2 f).2.1, .bool (findH2 f).2.2]) ∧ Below w.heap.size w w' := by
  have hbd := findS_bd tab2 f
  rw [tab2_len] at hbd
  obtain ⟨f1, f2⟩ := f
  unfold FdV
  simp only
  go_enter Try.func12, Try.ntmps12
  go_wp2_with fail
  have hbx := Blk.new w #[.string ⟨f1.toArray⟩, .string ⟨f2.toArray⟩] 26
  have HK0 := Lib.hid ((Below.refl w.heap.size w).alloc (Nat.le_refl _) (.cells #[.string ⟨f1.toArray⟩, .string ⟨f2.toArray⟩] 26 (0, 0)))
  have hs0 : w.heap.size < (w.alloc (.cells #[.string ⟨f1.toArray⟩, .string ⟨f2.toArray⟩] 26 (0, 0))).drew.heap.size := by show _ < (w.alloc _).heap.size; simp
  have e1 : (w.alloc (.cells #[.string ⟨f1.toArray⟩, .string ⟨f2.toArray⟩] 26 (0, 0))).drew.cell? ⟨w.heap.size, 0, none⟩ = some (.string ⟨f1.toArray⟩) := hbx.cell 0
  have e2 : (w.alloc (.cells #[.string ⟨f1.toArray⟩, .string ⟨f2.toArray⟩] 26 (0, 0))).drew.cell? ⟨w.heap.size, 1, none⟩ = some (.string ⟨f2.toArray⟩) := hbx.cell 1
  clear hbx
  go_region_held3 (fun w' => w'.cell? ⟨w.heap.size, 0, none⟩ = some (.string ⟨f1.toArray⟩) ∧ w'.cell? ⟨w.heap.size, 1, none⟩ = some (.string ⟨f2.toArray⟩)) (first | exact ⟨e1, e2⟩ | exact ⟨s1, s2⟩ | exact ⟨t1, t2⟩ | go_keep)
    (first
      | (go_at_call 16; refine (one_any _).mono ?_; rintro e w1 ⟨a1, n1, c1, rfl, ho1, hk1⟩; have s1 := (hk1.cell (p := ⟨w.heap.size, 0, none⟩) hs0).trans e1; have s2 := (hk1.cell (p := ⟨w.heap.size, 1, none⟩) hs0).trans e2)
      | (go_at_call 18; refine (find_any a1 n1 c1 tab2 (f1, f2) w1 (fun w' hb => (ho1.below hb).fv) (by have := ho1.1; rw [tab2_len] at this; omega)).mono ?_; rintro e w2 ⟨rfl, hk2⟩; have t1 := (hk2.cell (p := ⟨w.heap.size, 0, none⟩) (Nat.lt_of_lt_of_le hs0 hk1.size)).trans s1; have t2 := (hk2.cell (p := ⟨w.heap.size, 1, none⟩) (Nat.lt_of_lt_of_le hs0 hk1.size)).trans s2))
  have HK2 := Lib.hid ((HK0.out.drew.trans (hk1.mono (Nat.le_of_lt hs0))).trans (hk2.mono (Nat.le_of_lt (Nat.lt_of_lt_of_le hs0 hk1.size))))
  clear ho1 hk1 hk2 e1 e2 s1 s2 t1 t2
  generalize hr : findS tab2 (f1, f2) = r at *
  have HR := Lib.hid hr
  clear hr
  obtain ⟨r1, r2, r3⟩ := r
  obtain ⟨hb1, hb2⟩ := hbd
  simp only at hb1 hb2
  cases r2 with
  | true =>
    go_wp2_with fail
    go_returns
    exact ⟨by unfold findH2; rw [HR.out]; rfl, HK2.out⟩
  | false =>
    go_wp2_with fail
    go_returns
    exact ⟨by unfold findH2; rw [HR.out]; rfl, HK2.out⟩

set_option maxHeartbeats 1600000 in
theorem findh3_any (f : Fd) (w : World) :
    Calls Try.prog 14 #[FdV f] w fun e w' => e = .returned (.tuple #[.int .u64 (findS tab3 f).1, .bool (findS tab3 f).2.1, .bool (findS tab3 f).2.2]) ∧ Below w.heap.size w w' := by
  have hbd := findS_bd tab3 f
  rw [tab3_len] at hbd
  obtain ⟨f1, f2⟩ := f
  unfold FdV
  simp only
  go_enter Try.func14, Try.ntmps14
  go_wp2_with fail
  have hbx := Blk.new w #[.string ⟨f1.toArray⟩, .string ⟨f2.toArray⟩] 26
  have HK0 := Lib.hid ((Below.refl w.heap.size w).alloc (Nat.le_refl _) (.cells #[.string ⟨f1.toArray⟩, .string ⟨f2.toArray⟩] 26 (0, 0)))
  have hs0 : w.heap.size < (w.alloc (.cells #[.string ⟨f1.toArray⟩, .string ⟨f2.toArray⟩] 26 (0, 0))).drew.heap.size := by show _ < (w.alloc _).heap.size; simp
  have e1 : (w.alloc (.cells #[.string ⟨f1.toArray⟩, .string ⟨f2.toArray⟩] 26 (0, 0))).drew.cell? ⟨w.heap.size, 0, none⟩ = some (.string ⟨f1.toArray⟩) := hbx.cell 0
  have e2 : (w.alloc (.cells #[.string ⟨f1.toArray⟩, .string ⟨f2.toArray⟩] 26 (0, 0))).drew.cell? ⟨w.heap.size, 1, none⟩ = some (.string ⟨f2.toArray⟩) := hbx.cell 1
  clear hbx
  go_region_held3 (fun w' => w'.cell? ⟨w.heap.size, 0, none⟩ = some (.string ⟨f1.toArray⟩) ∧ w'.cell? ⟨w.heap.size, 1, none⟩ = some (.string ⟨f2.toArray⟩)) (first | exact ⟨e1, e2⟩ | exact ⟨s1, s2⟩ | exact ⟨t1, t2⟩ | go_keep)
    (first
      | (go_at_call 17; refine (two_any _).mono ?_; rintro e w1 ⟨a1, n1, c1, rfl, ho1, hk1⟩; have s1 := (hk1.cell (p := ⟨w.heap.size, 0, none⟩) hs0).trans e1; have s2 := (hk1.cell (p := ⟨w.heap.size, 1, none⟩) hs0).trans e2)
      | (go_at_call 18; refine (find_any a1 n1 c1 tab3 (f1, f2) w1 (fun w' hb => (ho1.below hb).fv) (by have := ho1.1; rw [tab3_len] at this; omega)).mono ?_; rintro e w2 ⟨rfl, hk2⟩; have t1 := (hk2.cell (p := ⟨w.heap.size, 0, none⟩) (Nat.lt_of_lt_of_le hs0 hk1.size)).trans s1; have t2 := (hk2.cell (p := ⟨w.heap.size, 1, none⟩) (Nat.lt_of_lt_of_le hs0 hk1.size)).trans s2))
  have HK2 := Lib.hid ((HK0.out.drew.trans (hk1.mono (Nat.le_of_lt hs0))).trans (hk2.mono (Nat.le_of_lt (Nat.lt_of_lt_of_le hs0 hk1.size))))
  clear ho1 hk1 hk2 e1 e2 s1 s2 t1 t2
  go_wp2_with fail
  go_returns
  exact ⟨rfl, HK2.out⟩

end Go.Proofs.Ytlpdmpmfnjcelaa
