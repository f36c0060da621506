/- An entry of a row of fields; where a field stands in it. -/
import Derived.Test.YtlpdmpmfnjcelaaStaF
import Derived.Deep.RegionWith
namespace Go.Proofs.Ytlpdmpmfnjcelaa
open Go.RowKit Go.Deep

def FdV (f : Fd) : Value := .agg #[.string ⟨f.1.toArray⟩, .string ⟨f.2.toArray⟩]
def atF (l : List Fd) (i : Nat) : Fd × Bool := match l[i]? with | some f => (f, true) | none => (([], []), false)
theorem atF_some {l : List Fd} {i : Nat} (h : i < l.length) : atF l i = (l[i], true) := by unfold atF; rw [List.getElem?_eq_getElem h]
theorem atF_none {l : List Fd} {i : Nat} (h : l.length ≤ i) : atF l i = (([], []), false) := by unfold atF; rw [List.getElem?_eq_none h]

set_option maxHeartbeats 400000 in
theorem at_any (a : Option Addr) (n cap : Nat) (l : List Fd) (i : Nat) (w : World) (hb : Fv w a n cap l) (hi : i ≤ 18446744073709551615) :
    Calls Try.prog 15 #[.slice a n cap, .int .u64 i] w fun e w' => e = .returned (.tuple #[FdV (atF l i).1, .bool (atF l i).2]) ∧ Below w.heap.size w w' := by
  have hcap := hb.2.le
  have hmax := hb.2.max
  unfold maxLen at hmax
  have HB := Lib.hid hb
  have HN := Lib.hid hb.1
  clear hb
  by_cases h : i < n
  · have hil : i < l.length := by have := HN.out; omega
    obtain ⟨b, o, rfl, hlt, hc⟩ := HB.out.get (by omega)
    have p1 : w.cell? ⟨b, o + i * 2, none⟩ = some (.string ⟨l[i].1.toArray⟩) := (hc i hil).1
    have p2 : w.cell? ⟨b, o + i * 2 + 1, none⟩ = some (.string ⟨l[i].2.toArray⟩) := (hc i hil).2
    have HE := Lib.hid (atF_some hil)
    clear hc
    go_enter Try.func15, Try.ntmps15
    go_wp2_with fail
    go_returns
    rw [HE.out]
    exact ⟨rfl, (Below.refl _ _).alloc (Nat.le_refl _) _⟩
  · have HE := Lib.hid (atF_none (l := l) (i := i) (by have := HN.out; omega))
    go_enter Try.func15, Try.ntmps15
    go_wp2_with fail
    go_returns
    rw [HE.out]
    exact ⟨rfl, (Below.refl _ _).alloc (Nat.le_refl _) _⟩

def fullI (l : List Fd) (f : Fd) : Option Nat := l.findIdx? fun x => decide (x = f)
def nameI (l : List Fd) (f : Fd) : Option Nat := l.findIdx? fun x => decide (x.1 = f.1)
def nameS (l : List Fd) (f : Fd) : Int × Bool := match nameI l f with | some i => (i, true) | none => (0, false)
def findS (l : List Fd) (f : Fd) : Int × Bool × Bool := match fullI l f with | some i => (i, true, true) | none => ((nameS l f).1, (nameS l f).2, false)
theorem full_at {l : List Fd} {f : Fd} {i : Nat} (hi : i < l.length) (h : ∀ x ∈ l.take i, x ≠ f) (e : l[i] = f) : findS l f = ((i : Int), true, true) := by
  unfold findS
  have : fullI l f = some i := by
    unfold fullI
    rw [List.findIdx?_eq_some_iff_getElem]
    refine ⟨hi, by simpa using e, fun j hj => ?_⟩
    have := h l[j] (by rw [List.mem_take_iff_getElem]; exact ⟨j, by omega, rfl⟩)
    simpa using this
  rw [this]
theorem full_no {l : List Fd} {f : Fd} (h : ∀ x ∈ l, x ≠ f) : findS l f = ((nameS l f).1, (nameS l f).2, false) := by
  unfold findS
  have : fullI l f = none := by
    unfold fullI
    rw [List.findIdx?_eq_none_iff]
    intro x hx
    simpa using h x hx
  rw [this]
theorem nameS_step {l : List Fd} {f : Fd} {i : Nat} (hi : i < l.length) : nameS (l.take (i + 1)) f = if (nameS (l.take i) f).2 = true then nameS (l.take i) f else if l[i].1 = f.1 then ((i : Int), true) else (0, false) := by
  unfold nameS nameI
  rw [List.take_succ_eq_append_getElem hi, List.findIdx?_append]
  cases h : List.findIdx? (fun x => decide (x.1 = f.1)) (l.take i) with
  | some j => simp
  | none =>
    by_cases e : l[i].1 = f.1
    · simp [e, List.findIdx?_cons]; omega
    · simp [e, List.findIdx?_cons]
theorem nameS_at {l : List Fd} {f : Fd} {i : Nat} (hi : i < l.length) (h : ∀ x ∈ l.take i, x.1 ≠ f.1) (e : l[i].1 = f.1) : nameS l f = ((i : Int), true) := by
  unfold nameS
  have : nameI l f = some i := by
    unfold nameI
    rw [List.findIdx?_eq_some_iff_getElem]
    refine ⟨hi, by simpa using e, fun j hj => ?_⟩
    have := h l[j] (by rw [List.mem_take_iff_getElem]; exact ⟨j, by omega, rfl⟩)
    simpa using this
  rw [this]
theorem nameS_no {l : List Fd} {f : Fd} (h : ∀ x ∈ l, x.1 ≠ f.1) : nameS l f = (0, false) := by
  unfold nameS
  have : nameI l f = none := by
    unfold nameI
    rw [List.findIdx?_eq_none_iff]
    intro x hx
    simpa using h x hx
  rw [this]

theorem nameS_bd (l : List Fd) (f : Fd) : 0 ≤ (nameS l f).1 ∧ (nameS l f).1 ≤ l.length := by
  unfold nameS
  cases h : nameI l f with
  | none => simp
  | some i =>
    unfold nameI at h
    rw [List.findIdx?_eq_some_iff_getElem] at h
    obtain ⟨hi, _⟩ := h
    simp
    omega
theorem findS_bd (l : List Fd) (f : Fd) : 0 ≤ (findS l f).1 ∧ (findS l f).1 ≤ l.length := by
  unfold findS
  cases h : fullI l f with
  | none => exact nameS_bd l f
  | some i =>
    unfold fullI at h
    rw [List.findIdx?_eq_some_iff_getElem] at h
    obtain ⟨hi, _⟩ := h
    simp
    omega

set_option maxHeartbeats 1600000 in
theorem find_any (a : Option Addr) (n cap : Nat) (l : List Fd) (f : Fd) (w : World) (hb : ∀ w', Below w.heap.size w w' → Fv w' a n cap l) (hn : n ≤ 1000) :
    Calls Try.prog 18 #[.slice a n cap, FdV f] w fun e w' => e = .returned (.tuple #[.int .u64 (findS l f).1, .bool (findS l f).2.1, .bool (findS l f).2.2]) ∧ Below w.heap.size w w' := by
  have hb0 := hb w (Below.refl _ _)
  have hcap := hb0.2.le
  have hmax := hb0.2.max
  unfold maxLen at hmax
  have HB := Lib.hid hb
  have HN := Lib.hid hb0.1
  clear hb hb0
  obtain ⟨f1, f2⟩ := f
  unfold FdV
  simp only
  go_enter Try.func18, Try.ntmps18
  go_wp2_with fail
  have HBX := Lib.hid (Blk.new w #[.string ⟨f1.toArray⟩, .string ⟨f2.toArray⟩] 26)
  have HK0 := Lib.hid ((Below.refl w.heap.size w).alloc (Nat.le_refl _) (.cells #[.string ⟨f1.toArray⟩, .string ⟨f2.toArray⟩] 26 (0, 0)))
  have HS0 : Hid ((w.alloc (.cells #[.string ⟨f1.toArray⟩, .string ⟨f2.toArray⟩] 26 (0, 0))).heap.size = w.heap.size + 1) := by show _ = _; simp
  generalize w.alloc (.cells #[.string ⟨f1.toArray⟩, .string ⟨f2.toArray⟩] 26 (0, 0)) = w0 at *
  go_loopg [7, 8, 13] n (fun k va vn vi wr => ∃ (i : Nat), k + i = n ∧ vi = .int .i64 i ∧ va = .int .i64 (nameS (l.take i) (f1, f2)).1 ∧ vn = .bool (nameS (l.take i) (f1, f2)).2 ∧ (∀ x ∈ l.take i, x ≠ (f1, f2)) ∧ Below w0.heap.size w0 wr)
  case atStart => exact ⟨0, by omega, rfl, rfl, rfl, by simp, Below.refl _ _⟩
  case round =>
    obtain ⟨i, hi, rfl, rfl, rfl, hall, hk⟩ := hrel
    have HI := Lib.hid hi
    have HALL := Lib.hid hall
    have HK := Lib.hid hk
    clear hi hall hk
    have hsz : w.heap.size + 1 ≤ wr.heap.size := by have := HK.out.size; rw [HS0.out] at this; exact this
    have HKR := Lib.hid (HK0.out.trans (HK.out.mono HK0.out.size))
    by_cases hin : i < n
    · have hil : i < l.length := by have := HN.out; omega
      obtain ⟨b, o, rfl, hlt, hc⟩ := (HB.out wr HKR.out).get (by omega)
      have HST := Lib.hid (nameS_step (f := (f1, f2)) hil)
      have hx := (Below.keeps HK.out).blk HBX.out (by rw [HS0.out]; omega)
      have hci := hc i hil
      generalize hli : l[i] = x at *
      have HLI := Lib.hid hli
      clear hli hc
      obtain ⟨x1, x2⟩ := x
      have p1 : wr.cell? ⟨b, o + i * 2, none⟩ = some (.string ⟨x1.toArray⟩) := hci.1
      have p2 : wr.cell? ⟨b, o + i * 2 + 1, none⟩ = some (.string ⟨x2.toArray⟩) := hci.2
      have q1 : (wr.alloc (.cells #[.string ⟨x1.toArray⟩, .string ⟨x2.toArray⟩] 26 (0, 0))).cell? ⟨w.heap.size, 0, none⟩ = some (.string ⟨f1.toArray⟩) := (hx.alloc _).cell 0
      have q2 : (wr.alloc (.cells #[.string ⟨x1.toArray⟩, .string ⟨x2.toArray⟩] 26 (0, 0))).cell? ⟨w.heap.size, 1, none⟩ = some (.string ⟨f2.toArray⟩) := (hx.alloc _).cell 1
      have HK1 := Lib.hid (HK.out.alloc HK.out.size (.cells #[.string ⟨x1.toArray⟩, .string ⟨x2.toArray⟩] 26 (0, 0)))
      have HKR1 := Lib.hid (HKR.out.alloc HKR.out.size (.cells #[.string ⟨x1.toArray⟩, .string ⟨x2.toArray⟩] 26 (0, 0)))
      clear hci hx
      generalize hns : nameS (l.take i) (f1, f2) = ns at *
      have HNS := Lib.hid hns
      clear hns
      obtain ⟨at_, nm⟩ := ns
      by_cases h1 : x1 = f1
      · subst x1
        by_cases h2 : x2 = f2
        · subst x2
          have HE := Lib.hid (full_at hil HALL.out HLI.out)
          go_wp2_with fail
          go_returns
          rw [HE.out]
          exact ⟨rfl, HKR1.out⟩
        · have HNE : Hid (l[i] ≠ (f1, f2)) := fun e => h2 (by have := HLI.out; rw [e] at this; cases this; rfl)
          cases nm with
          | true =>
            go_wp2_with fail
            obtain ⟨g, rfl⟩ : ∃ g, gk = g + 1 := ⟨gk - 1, by have := HI.out; omega⟩
            go_roundg g
            case measure => omega
            case rel =>
              refine ⟨i + 1, by have := HI.out; omega, by go_num, by rw [HST.out]; rfl, by rw [HST.out]; rfl, fun x hx => ?_, HK1.out⟩
              rw [List.take_succ_eq_append_getElem hil, List.mem_append] at hx
              rcases hx with hx | hx
              · exact HALL.out x hx
              · simp at hx; subst hx; exact HNE.out
          | false =>
            go_wp2_with fail
            obtain ⟨g, rfl⟩ : ∃ g, gk = g + 1 := ⟨gk - 1, by have := HI.out; omega⟩
            go_roundg g
            case measure => omega
            case rel =>
              refine ⟨i + 1, by have := HI.out; omega, by go_num, by rw [HST.out]; simp, by rw [HST.out]; simp, fun x hx => ?_, HK1.out⟩
              rw [List.take_succ_eq_append_getElem hil, List.mem_append] at hx
              rcases hx with hx | hx
              · exact HALL.out x hx
              · simp at hx; subst hx; exact HNE.out
      · have HNE : Hid (l[i] ≠ (f1, f2)) := fun e => h1 (by have := HLI.out; rw [e] at this; cases this; rfl)
        go_wp2_with fail
        obtain ⟨g, rfl⟩ : ∃ g, gk = g + 1 := ⟨gk - 1, by have := HI.out; omega⟩
        go_roundg g
        case measure => omega
        case rel =>
          have hz : nm = false → at_ = 0 := by
            intro h
            subst h
            have := HNS.out
            unfold nameS at this
            split at this
            · cases this
            · cases this; rfl
          refine ⟨i + 1, by have := HI.out; omega, by go_num, ?_, ?_, fun x hx => ?_, HK1.out⟩
          · rw [HST.out]; cases nm with
            | true => rfl
            | false => simp [h1, hz rfl]
          · rw [HST.out]; cases nm with
            | true => rfl
            | false => simp [h1]
          · rw [List.take_succ_eq_append_getElem hil, List.mem_append] at hx
            rcases hx with hx | hx
            · exact HALL.out x hx
            · simp at hx; subst hx; exact HNE.out
    · have hil : i = n := by have := HI.out; omega
      have htk : l.take i = l := by rw [hil]; exact List.take_of_length_le (by have := HN.out; omega)
      have HALL2 : Hid (∀ x ∈ l, x ≠ (f1, f2)) := by have h := HALL.out; rwa [htk] at h
      have HE := Lib.hid (full_no HALL2.out)
      rw [htk]
      have hb1 := nameS_bd l (f1, f2)
      have hb2 : 0 ≤ (nameS l (f1, f2)).1 ∧ (nameS l (f1, f2)).1 ≤ 9223372036854775807 := by have := HN.out; omega
      clear hb1
      clear hil htk
      obtain ⟨hb3, hb4⟩ := hb2
      go_wp2_with fail
      go_returns
      rw [HE.out]
      exact ⟨rfl, HKR.out⟩


set_option maxHeartbeats 1600000 in
theorem findr_any (a : Option Addr) (n cap : Nat) (l : List Fd) (f : Fd) (w : World) (hb : Fv w a n cap l) (hn : n ≤ 1000) :
    Calls Try.prog 13 #[.slice a n cap, FdV f] w fun e w' => e = .returned (.tuple #[.int .i64 (findS l f).1, .bool (findS l f).2.1, .bool (findS l f).2.2]) ∧ Below w.heap.size w w' := by
  have hcap := hb.2.le
  have hmax := hb.2.max
  unfold maxLen at hmax
  have HN := Lib.hid hb.1
  obtain ⟨f1, f2⟩ := f
  have HB := Lib.hid (hb.alloc (.cells #[.string ⟨f1.toArray⟩, .string ⟨f2.toArray⟩] 26 (0, 0)))
  clear hb
  unfold FdV
  simp only
  go_enter Try.func13, Try.ntmps13
  go_wp2_with fail
  have hbx := Blk.new w #[.string ⟨f1.toArray⟩, .string ⟨f2.toArray⟩] 26
  have HBX := Lib.hid hbx
  have HK0 := Lib.hid ((Below.refl w.heap.size w).alloc (Nat.le_refl _) (.cells #[.string ⟨f1.toArray⟩, .string ⟨f2.toArray⟩] 26 (0, 0)))
  clear hbx
  generalize w.alloc (.cells #[.string ⟨f1.toArray⟩, .string ⟨f2.toArray⟩] 26 (0, 0)) = w0 at *
  go_loopg [7] n (fun k vi wr => ∃ (i : Nat), k + i = n ∧ vi = .int .i64 i ∧ (∀ x ∈ l.take i, x ≠ (f1, f2)) ∧ ∃ q, wr = w0.drewN q)
  case atStart => exact ⟨0, by omega, rfl, by simp, 0, rfl⟩
  case round =>
    obtain ⟨i, hi, rfl, hall, q, rfl⟩ := hrel
    have HI := Lib.hid hi
    have HALL := Lib.hid hall
    clear hi hall
    by_cases hin : i < n
    · have hil : i < l.length := by have := HN.out; omega
      obtain ⟨b, o, rfl, hlt, hc⟩ := HB.out.get (by omega)
      have hci := hc i hil
      generalize hli : l[i] = x at *
      have HLI := Lib.hid hli
      clear hli hc
      obtain ⟨x1, x2⟩ := x
      have p1 : (w0.drewN (q + 1)).cell? ⟨b, o + i * 2, none⟩ = some (.string ⟨x1.toArray⟩) := hci.1
      have p2 : (w0.drewN (q + 1)).cell? ⟨b, o + i * 2 + 1, none⟩ = some (.string ⟨x2.toArray⟩) := hci.2
      have q1 : (w0.drewN (q + 1)).cell? ⟨w.heap.size, 0, none⟩ = some (.string ⟨f1.toArray⟩) := HBX.out.cell 0
      have q2 : (w0.drewN (q + 1)).cell? ⟨w.heap.size, 1, none⟩ = some (.string ⟨f2.toArray⟩) := HBX.out.cell 1
      have hi0 : (0 : Int) ≤ (i : Int) := by omega
      have hi1 : (i : Int) < (n : Int) := by omega
      clear hci
      by_cases hxf : x1 = f1 ∧ x2 = f2
      · obtain ⟨h1, h2⟩ := hxf
        subst x1 x2
        have HE := Lib.hid (full_at hil HALL.out HLI.out)
        go_wp2_with fail
        go_region
        all_goals (
          go_wp2_with fail
          go_returns
          rw [HE.out]
          exact ⟨rfl, Below.drewN' HK0.out (q + 1)⟩)
      · have HNE : Hid (l[i] ≠ (f1, f2)) := fun e => hxf (by have := HLI.out; rw [e] at this; cases this; exact ⟨rfl, rfl⟩)
        have hd : (x1 = f1 → ¬ x2 = f2) := fun h1 h2 => hxf ⟨h1, h2⟩
        clear hxf
        by_cases h1 : x1 = f1
        · subst x1
          have h2 : ¬ x2 = f2 := hd rfl
          clear hd
          go_wp2_with fail
          go_region
          all_goals (
            go_wp2_with fail
            obtain ⟨g, rfl⟩ : ∃ g, gk = g + 1 := ⟨gk - 1, by have := HI.out; omega⟩
            go_roundg g
            case measure => omega
            case rel =>
              refine ⟨i + 1, by have := HI.out; omega, by go_num, fun x hx => ?_, q + 1, rfl⟩
              rw [List.take_succ_eq_append_getElem hil, List.mem_append] at hx
              rcases hx with hx | hx
              · exact HALL.out x hx
              · simp at hx; subst hx; exact HNE.out)
        · clear hd
          go_wp2_with fail
          go_region
          all_goals (
            go_wp2_with fail
            obtain ⟨g, rfl⟩ : ∃ g, gk = g + 1 := ⟨gk - 1, by have := HI.out; omega⟩
            go_roundg g
            case measure => omega
            case rel =>
              refine ⟨i + 1, by have := HI.out; omega, by go_num, fun x hx => ?_, q + 1, rfl⟩
              rw [List.take_succ_eq_append_getElem hil, List.mem_append] at hx
              rcases hx with hx | hx
              · exact HALL.out x hx
              · simp at hx; subst hx; exact HNE.out)
    · have hil : i = n := by have := HI.out; omega
      have htk : l.take i = l := by rw [hil]; exact List.take_of_length_le (by have := HN.out; omega)
      have HALL2 : Hid (∀ x ∈ l, x ≠ (f1, f2)) := by have h := HALL.out; rwa [htk] at h
      have HE := Lib.hid (full_no HALL2.out)
      clear hil htk
      go_wp2_with fail
      go_loopg [8] n (fun k vi wr => ∃ (i : Nat), k + i = n ∧ vi = .int .i64 i ∧ (∀ x ∈ l.take i, x.1 ≠ f1) ∧ ∃ q, wr = w0.drewN q)
      case atStart => exact ⟨0, by omega, rfl, by simp, q, rfl⟩
      case round =>
        obtain ⟨j, hj, rfl, hall, q5, rfl⟩ := hrel
        have HJ := Lib.hid hj
        have HALL3 := Lib.hid hall
        clear hj hall
        by_cases hjn : j < n
        · have hjl : j < l.length := by have := HN.out; omega
          obtain ⟨b, o, rfl, hlt, hc⟩ := HB.out.get (by omega)
          have hcj := hc j hjl
          generalize hli : l[j] = x at *
          have HLI := Lib.hid hli
          clear hli hc
          obtain ⟨x1, x2⟩ := x
          have p1 : (w0.drewN (q5 + 1)).cell? ⟨b, o + j * 2, none⟩ = some (.string ⟨x1.toArray⟩) := hcj.1
          have q1 : (w0.drewN (q5 + 1)).cell? ⟨w.heap.size, 0, none⟩ = some (.string ⟨f1.toArray⟩) := HBX.out.cell 0
          have hi0 : (0 : Int) ≤ (j : Int) := by omega
          have hi1 : (j : Int) < (n : Int) := by omega
          clear hcj
          by_cases h1 : x1 = f1
          · subst x1
            have HE2 : Hid (nameS l (f1, f2) = ((j : Int), true)) := nameS_at (f := (f1, f2)) hjl HALL3.out (by have := HLI.out; rw [this])
            go_wp2_with fail
            go_region
            all_goals (
              go_wp2_with fail
              go_returns
              rw [HE.out, HE2.out]
              exact ⟨rfl, Below.drewN' HK0.out (q5 + 1)⟩)
          · have HNE : Hid (l[j].1 ≠ f1) := fun e => h1 (by have := HLI.out; rw [this] at e; exact e)
            have hbe : (x1 == f1) = false := by simpa using h1
            go_wp2_with fail
            go_region
            all_goals (
              go_wp2_with fail
              obtain ⟨g, rfl⟩ : ∃ g, gk = g + 1 := ⟨gk - 1, by have := HJ.out; omega⟩
              go_roundg g
              case measure => omega
              case rel =>
                refine ⟨j + 1, by have := HJ.out; omega, by go_num, fun x hx => ?_, q5 + 1, rfl⟩
                rw [List.take_succ_eq_append_getElem hjl, List.mem_append] at hx
                rcases hx with hx | hx
                · exact HALL3.out x hx
                · simp at hx; subst hx; exact HNE.out)
        · have hjl : j = n := by have := HJ.out; omega
          have HE2 : Hid (nameS l (f1, f2) = (0, false)) := nameS_no (f := (f1, f2)) (by have h := HALL3.out; rwa [hjl, List.take_of_length_le (by have := HN.out; omega)] at h)
          clear hjl
          go_wp2_with fail
          go_returns
          rw [HE.out, HE2.out]
          exact ⟨rfl, Below.drewN' HK0.out q5⟩

end Go.Proofs.Ytlpdmpmfnjcelaa
