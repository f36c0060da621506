/- Reserved and Write of the packages h3frame and bifoldref26. -/
import Derived.Test.YtblgahhfhgdpiaaH3A
import Derived.Deep.RegionWith
namespace Go.Proofs.Ytblgahhfhgdpiaa
open Go.RowKit Go.Deep

/-- A frame in memory, and what its bytes are. -/
structure Fr where
  t : Int
  a : Option Addr
  n : Nat
  cap : Nat
  xs : List UInt8
def Frs : List Fr → List Value
  | [] => []
  | f :: l => .int .u64 f.t :: .slice f.a f.n f.cap :: Frs l
theorem Frs_length (l : List Fr) : (Frs l).length = l.length * 2 := by induction l with
  | nil => rfl
  | cons f l ih => simp [Frs, ih]; omega
theorem Frs_get (l : List Fr) : ∀ (i : Nat) (hi : i < l.length), (Frs l)[i * 2]? = some (.int .u64 l[i].t) ∧ (Frs l)[i * 2 + 1]? = some (.slice l[i].a l[i].n l[i].cap) := by
  induction l with
  | nil => intro i hi; simp at hi
  | cons f l ih =>
    intro i hi
    cases i with
    | zero => exact ⟨rfl, rfl⟩
    | succ i =>
      have := ih i (by simpa using hi)
      simp only [Frs, show (i + 1) * 2 = i * 2 + 1 + 1 by omega, List.getElem?_cons_succ, List.getElem_cons_succ]
      exact this
/-- A slice of frames in memory. -/
def Hv (w : World) (a : Option Addr) (n cap : Nat) (l : List Fr) : Prop := n = l.length ∧ Vw w a n cap 2 (Frs l) ∧ ∀ f ∈ l, 0 ≤ f.t ∧ f.t ≤ 18446744073709551615 ∧ By w f.a f.n f.cap f.xs
theorem Hv.get {w : World} {a : Option Addr} {n cap : Nat} {l : List Fr} (h : Hv w a n cap l) (hn : 0 < n) :
    ∃ b off, a = some ⟨b, off, none⟩ ∧ b < w.heap.size ∧ ∀ i (hi : i < l.length), w.cell? ⟨b, off + i * 2, none⟩ = some (.int .u64 l[i].t) ∧ w.cell? ⟨b, off + i * 2 + 1, none⟩ = some (.slice l[i].a l[i].n l[i].cap) := by
  rcases h.2.1.at_ with h0 | ⟨b, off, ha, hb, hc⟩
  · have h1 := Frs_length l
    rw [h0] at h1
    have := h.1
    simp at h1
    omega
  · refine ⟨b, off, ha, hb, fun i hi => ⟨hc _ _ (Frs_get l i hi).1, ?_⟩⟩
    have := hc _ _ (Frs_get l i hi).2
    rwa [← Nat.add_assoc] at this

def frOK (f : Fr) : Bool := varsOK [f.t, (f.xs.length : Int)]
def frE (f : Fr) : List UInt8 := varsE [f.t, (f.xs.length : Int)] ++ f.xs
def frsOK (l : List Fr) : Bool := l.all frOK
def frsE (l : List Fr) : List UInt8 := l.flatMap frE
def frsR (xs : List UInt8) (l : List Fr) : List UInt8 := if frsOK l then xs ++ frsE l else []
def frsErr (l : List Fr) : Int := if frsOK l then 0 else 21

def resB (t : Int) : Bool := decide (33 ≤ t ∧ (t - 33) % 31 = 0)
theorem reserved_any (t : Int) (w : World) (h0 : 0 ≤ t) (h1 : t ≤ 18446744073709551615) : Calls Try.prog 16 #[.int .u64 t] w fun e w' => e = .returned (.bool (resB t)) ∧ w = w' := by
  by_cases h : 33 ≤ t
  · by_cases h2 : ((t - 33) % 31 == 0) = true
    · have HE : Hid (resB t = true) := by show _ = _; unfold resB; simp at h2; simp [h, h2]
      go_enter Try.func16, Try.ntmps16
      go_wp2_with fail
      go_returns
      exact ⟨by rw [HE.out]; simp [h2], rfl⟩
    · have HE : Hid (resB t = false) := by show _ = _; unfold resB; simp at h2; simp [h2]
      go_enter Try.func16, Try.ntmps16
      go_wp2_with fail
      go_returns
      exact ⟨by rw [HE.out]; simp at h2; simp [h2], rfl⟩
  · have HE : Hid (resB t = false) := by show _ = _; unfold resB; simp [h]
    go_enter Try.func16, Try.ntmps16
    go_wp2_with fail
    go_returns
    exact ⟨by rw [HE.out]; rfl, rfl⟩
theorem reservedr_any (t : Int) (w : World) (h0 : 0 ≤ t) (h1 : t ≤ 18446744073709551615) : Calls Try.prog 17 #[.int .u64 t] w fun e w' => e = .returned (.bool (resB t)) ∧ w = w' := by
  by_cases h : 33 ≤ t
  · by_cases h2 : ((t - 33) % 31 == 0) = true
    · have HE : Hid (resB t = true) := by show _ = _; unfold resB; simp at h2; simp [h, h2]
      go_enter Try.func17, Try.ntmps17
      go_wp2_with fail
      go_returns
      exact ⟨by rw [HE.out]; simp [h2], rfl⟩
    · have HE : Hid (resB t = false) := by show _ = _; unfold resB; simp at h2; simp [h2]
      go_enter Try.func17, Try.ntmps17
      go_wp2_with fail
      go_returns
      exact ⟨by rw [HE.out]; simp at h2; simp [h2], rfl⟩
  · have HE : Hid (resB t = false) := by show _ = _; unfold resB; simp [h]
    go_enter Try.func17, Try.ntmps17
    go_wp2_with fail
    go_returns
    exact ⟨by rw [HE.out]; rfl, rfl⟩

theorem Uv.two (w : World) (t : TypeId) (u v : Int) (h0 : 0 ≤ u) (h1 : u ≤ 18446744073709551615) (h2 : 0 ≤ v) (h3 : v ≤ 18446744073709551615) : Uv (w.alloc (.cells #[.int .u64 u, .int .u64 v] t (0, 0))) (some ⟨w.heap.size, 0, none⟩) 2 2 [u, v] :=
  ⟨rfl, Vw.new w [.int .u64 u, .int .u64 v] t (by unfold maxLen; simp), fun x hx => by simp at hx; rcases hx with rfl | rfl <;> omega⟩

theorem Uv.two2 (w : World) (o : Obj) (t : TypeId) (u v : Int) (h0 : 0 ≤ u) (h1 : u ≤ 18446744073709551615) (h2 : 0 ≤ v) (h3 : v ≤ 18446744073709551615) : Uv ((w.alloc o).alloc (.cells #[.int .u64 u, .int .u64 v] t (0, 0))) (some ⟨w.heap.size + 1, 0, none⟩) 2 2 [u, v] := by
  have := Uv.two (w.alloc o) t u v h0 h1 h2 h3
  rwa [World.size_alloc] at this

theorem frsOK_step {l : List Fr} {i : Nat} (hi : i < l.length) (h : frsOK (l.take i) = true) (hv : frOK l[i] = true) : frsOK (l.take (i + 1)) = true := by
  unfold frsOK at *
  rw [List.take_succ_eq_append_getElem hi, List.all_append, h]
  simpa using hv
theorem frsE_step {l : List Fr} {i : Nat} (hi : i < l.length) (xs : List UInt8) : xs ++ frsE (l.take (i + 1)) = (xs ++ frsE (l.take i)) ++ frE l[i] := by
  unfold frsE
  rw [List.take_succ_eq_append_getElem hi, List.flatMap_append]
  simp
theorem frsOK_not {l : List Fr} {i : Nat} (hi : i < l.length) (hv : frOK l[i] = false) : frsOK l = false := by
  cases h : frsOK l with
  | false => rfl
  | true =>
    unfold frsOK at h
    have := List.all_eq_true.1 h l[i] (List.getElem_mem hi)
    rw [hv] at this
    cases this
theorem varsE_two (u v : Int) : (varsE [u, v]).length ≤ 16 := by
  have e : varsE [u, v] = varE u ++ varE v := by simp [varsE]
  have h : ∀ x, (varE x).length ≤ 8 := fun x => by unfold varE; (repeat' split) <;> simp [bigD_length]
  have := h u
  have := h v
  rw [e, List.length_append]
  omega

set_option maxHeartbeats 800000 in
theorem h3write_any (a : Option Addr) (m cap : Nat) (xs : List UInt8) (a2 : Option Addr) (m2 cap2 : Nat) (l : List Fr) (w : World) (hb : By w a m cap xs) (hv : ∀ w', Below w.heap.size w w' → Hv w' a2 m2 cap2 l) (hl : m ≤ 1000000) (hl2 : m2 ≤ 100) (hl3 : ∀ f ∈ l, f.n ≤ 1000000) :
    Calls Try.prog 11 #[.slice a m cap, .slice a2 m2 cap2] w fun e w' => ∃ a' n' cap', e = .returned (.tuple #[.slice a' n' cap', .int .i64 (frsErr l)]) ∧ Bo w.heap.size w' a' n' cap' (frsR xs l) ∧ Below w.heap.size w w' := by
  have hv0 := hv w (Below.refl _ _)
  have hcap := hv0.2.1.le
  have hmax := hv0.2.1.max
  unfold maxLen at hmax
  have HB := Lib.hid hb
  have HV := Lib.hid hv
  have HM := Lib.hid hv0.1
  have HL := Lib.hid hl3
  clear hb hv hv0 hl3
  go_enter Try.func11, Try.ntmps11
  go_wp2_with (at_builtin; refine halt ?_)
  refine Halted.go (wpList_copy8 w rfl _ rfl a m cap xs rfl HB.out (by omega) ?_)
  intro a1 c1 w1 ho1 hk1
  have HO1 := Lib.hid ho1
  have HK1 := Lib.hid hk1
  clear ho1 hk1
  go_wp2_with fail
  go_loopg [6, 15] m2 (fun k vo vi wr => ∃ (i : Nat) (a' : Option Addr) (cap' : Nat) (zs : List UInt8), k + i = m2 ∧ vi = .int .i64 i ∧ vo = .slice a' zs.length cap' ∧ frsOK (l.take i) = true ∧ zs = xs ++ frsE (l.take i) ∧ zs.length ≤ m + 1000016 * i ∧ Bo w.heap.size wr a' zs.length cap' zs ∧ Below w.heap.size w wr)
  case atStart => exact ⟨0, a1, c1, xs, by omega, rfl, by rw [← HB.out.1], rfl, by simp [frsE], by have := HB.out.1; omega, by rw [← HB.out.1]; exact HO1.out, HK1.out⟩
  case round =>
    obtain ⟨i, a2', c2', zs, hi, rfl, rfl, hok, hz, hlen, ho, hk⟩ := hrel
    have HOK := Lib.hid hok
    have HZ := Lib.hid hz
    have HO := Lib.hid ho
    have HK := Lib.hid hk
    have HI := Lib.hid hi
    clear hok hz ho hk hi
    by_cases hik : i < m2
    · have hix : i < l.length := by have := HM.out; omega
      have hvr := HV.out wr HK.out
      obtain ⟨ht0, ht1, hfb⟩ := hvr.2.2 l[i] (List.getElem_mem hix)
      have hfl := HL.out l[i] (List.getElem_mem hix)
      obtain ⟨b2, off2, rfl, hblt, hcell⟩ := hvr.get (by omega)
      obtain ⟨hc0, hc1⟩ := hcell i hix
      have hsz : w.heap.size ≤ wr.heap.size := HK.out.size
      have HFN : Hid (l[i].n = l[i].xs.length) := hfb.1
      have HFB := Lib.hid hfb
      clear hcell hvr hfb
      generalize hf : l[i] = f at *
      obtain ⟨ft, fa, fn, fcap, fxs⟩ := f
      simp only at hc0 hc1 ht0 ht1 hfl HFN HFB
      have HF := Lib.hid hf
      clear hf
      go_wp2_with fail
      refine (var_any a2' zs.length c2' zs _ 2 2 [ft, (fn : Int)] _ ((HO.out.by.alloc _).alloc _) (Uv.two2 wr _ _ _ _ ht0 ht1 (by omega) (by omega)) (by omega) (by omega)).mono ?_
      rintro e w3 ⟨a3, n3, c3, rfl, ho3, hk3⟩
      have hb3 : Blk w3 wr.heap.size #[.int .u64 ft, .slice fa fn fcap] 33 := (Below.keeps hk3).blk ((Blk.new wr _ _).alloc _) (by simp; omega)
      have q1 := hb3.cell 1
      have HK3 := Lib.hid ((HK.out.alloc hsz _).alloc (by simp; omega) _ |>.trans (hk3.mono (by simp; omega)))
      have HO3 := Lib.hid (ho3.mono (base' := w.heap.size) (by simp; omega))
      have hsz3 : w.heap.size ≤ w3.heap.size := HK3.out.size
      have HFB3 := Lib.hid ((HV.out w3 HK3.out).2.2 l[i] (List.getElem_mem hix)).2.2
      rw [HF.out] at HFB3
      simp only at HFB3
      clear ho3 hk3 hb3
      by_cases hov : varsOK [ft, (fn : Int)] = true
      · have he : varsErr [ft, (fn : Int)] = 0 := by unfold varsErr; rw [hov]; rfl
        have hx : Hid (varsR zs [ft, (fn : Int)] = zs ++ varsE [ft, (fn : Int)]) := by show _ = _; unfold varsR; rw [hov, if_pos rfl]
        have HOV : Hid (frOK l[i] = true) := by show _ = _; rw [HF.out]; unfold frOK; simp only; rw [← HFN.out]; exact hov
        have hvl := varsE_two ft (fn : Int)
        have hn3 : n3 = zs.length + (varsE [ft, (fn : Int)]).length := by have := HO3.out.1; rwa [hx.out, List.length_append] at this
        have HN3 := Lib.hid hn3
        have hn3b : n3 ≤ zs.length + 16 := by omega
        rw [he]
        clear he hov hn3 hvl
        go_wp2_with (at_builtin; refine halt ?_)
        refine Halted.go (wpList_app8 w3 rfl _ _ 22 rfl w.heap.size a3 _ c3 (zs ++ varsE [ft, (fn : Int)]) rfl (by have h := HO3.out; rw [hx.out] at h; exact h.bd) (.slice fa fn fcap) (by go_simp) fxs (by have h := HFB3.out.2.src Try.underlying22 (Bs_one fxs); rw [HFN.out] at h ⊢; exact h) (by have := HFN.out; omega) hsz3 ?_)
        intro a4 c4 w4 ho4 hk4 hn4 hown4 hnil4
        have hbo : Bo w.heap.size w4 a4 (n3 + fxs.length) c4 (zs ++ varsE [ft, (fn : Int)] ++ fxs) := by
          by_cases h0 : fxs.length = 0
          · obtain ⟨rfl, rfl, rfl⟩ := hnil4 h0
            have h := HO3.out
            rw [hx.out] at h
            obtain rfl : fxs = [] := List.eq_nil_of_length_eq_zero h0
            simpa using h
          · exact hown4 (by omega)
        have HO4 := Lib.hid hbo
        have HK4 := Lib.hid (Keeps.mine_below HK3.out hk4 HK3.out.size (Nat.le_refl _))
        clear ho4 hk4 hn4 hown4 hnil4 hbo
        go_wp2_with fail
        obtain ⟨k', rfl⟩ : ∃ k', gk = k' + 1 := ⟨gk - 1, by have := HI.out; omega⟩
        go_roundg k'
        case measure => omega
        case rel =>
          have hfe : frE l[i] = varsE [ft, (fn : Int)] ++ fxs := by rw [HF.out]; unfold frE; simp only; rw [← HFN.out]
          have hnl : n3 + fxs.length = (zs ++ frE l[i]).length := by rw [hfe, HN3.out]; simp; omega
          refine ⟨i + 1, a4, c4, zs ++ frE l[i], by have := HI.out; omega, by go_num, by rw [hnl], frsOK_step hix HOK.out HOV.out, by rw [frsE_step hix, ← HZ.out], ?_, ?_, HK4.out⟩
          · rw [← hnl]; have := HFN.out; omega
          · rw [← hnl, hfe, ← List.append_assoc]; exact HO4.out
      · have he : varsErr [ft, (fn : Int)] = 21 := by unfold varsErr; rw [if_neg hov]
        have HOV : Hid (frsOK l = false) := by
          refine frsOK_not hix ?_
          rw [HF.out]
          unfold frOK
          simp only
          rw [← HFN.out]
          simpa using hov
        rw [he]
        clear he hov
        go_wp2_with fail
        go_returns
        refine ⟨none, 0, 0, by unfold frsErr; rw [HOV.out]; rfl, ?_, HK3.out⟩
        unfold frsR
        rw [HOV.out]
        exact Bo.nil _ _
    · have hik2 : i = m2 := by have := HI.out; omega
      have HE : Hid (frsOK l = true) := by
        have := HOK.out
        rw [hik2, HM.out, List.take_length] at this
        exact this
      have HE2 : Hid (zs = xs ++ frsE l) := by
        have := HZ.out
        rw [hik2, HM.out, List.take_length] at this
        exact this
      clear hik2
      go_wp2_with fail
      go_returns
      refine ⟨a2', zs.length, c2', by unfold frsErr; rw [HE.out]; rfl, ?_, HK.out⟩
      unfold frsR
      rw [HE.out, if_pos rfl, ← HE2.out]
      exact HO.out

/-- Vars of the reference, on what one owns or what is full. -/
theorem varsr_b (base : Nat) (a : Option Addr) (m cap : Nat) (xs : List UInt8) (a2 : Option Addr) (m2 cap2 : Nat) (vs : List Int) (w : World) (hd : Bd base w a m cap xs) (hv : Uv w a2 m2 cap2 vs) (hbase : base ≤ w.heap.size)
    (hne : cap = m ∨ ∀ b, a2.map (·.block) = some b → a.map (·.block) ≠ some b) (hl : m ≤ 1000000000) (hl2 : m2 ≤ 1000000000) :
    Calls Try.prog 14 #[.slice a m cap, .slice a2 m2 cap2] w fun e w' => ∃ a' n' cap', e = .returned (.tuple #[.slice a' n' cap', .int .i64 (varsErr vs)]) ∧ Bd base w' a' n' cap' (varsR xs vs) ∧ Below base w w' := by
  rcases hne with hc | hne
  · subst hc
    refine (varsr_any w.heap.size a cap cap xs a2 m2 cap2 vs w hd.by.full hv (Nat.le_refl _) (fun hm b hb h => by have := hv.lt hm b hb; have := h.1; omega) hl hl2).mono ?_
    rintro e w' ⟨a', n', c', rfl, h1, h2, _⟩
    exact ⟨a', n', c', rfl, h1.mono hbase, (Keeps.mine_below (Below.refl _ _) h2 (Nat.le_refl _) (Nat.le_refl _)).mono hbase⟩
  · refine (varsr_any base a m cap xs a2 m2 cap2 vs w hd hv hbase (fun _ b hb h => hne b hb h.2) hl hl2).mono ?_
    rintro e w' ⟨a', n', c', rfl, h1, h2, _⟩
    exact ⟨a', n', c', rfl, h1, Keeps.mine_below (Below.refl _ _) h2 hbase (Nat.le_refl _)⟩

set_option maxHeartbeats 800000 in
theorem h3writer_any (a : Option Addr) (m cap : Nat) (xs : List UInt8) (a2 : Option Addr) (m2 cap2 : Nat) (l : List Fr) (w : World) (hb : By w a m cap xs) (hv : ∀ w', Below w.heap.size w w' → Hv w' a2 m2 cap2 l) (hl : m ≤ 1000000) (hl2 : m2 ≤ 100) (hl3 : ∀ f ∈ l, f.n ≤ 1000000) :
    Calls Try.prog 12 #[.slice a m m, .slice a2 m2 cap2] w fun e w' => ∃ a' n' cap', e = .returned (.tuple #[.slice a' n' cap', .int .i64 (frsErr l)]) ∧ By w' a' n' cap' (frsR xs l) ∧ Below w.heap.size w w' := by
  have hv0 := hv w (Below.refl _ _)
  have hcap := hv0.2.1.le
  have hmax := hv0.2.1.max
  unfold maxLen at hmax
  have HB := Lib.hid (hb.cut.full (base := w.heap.size))
  have HV := Lib.hid hv
  have HM := Lib.hid hv0.1
  have HL := Lib.hid hl3
  clear hb hv hv0 hl3
  go_enter Try.func12, Try.ntmps12
  go_wp2_with fail
  go_loopg [0, 6] m2 (fun k vo vi wr => ∃ (i : Nat) (a' : Option Addr) (cap' : Nat) (zs : List UInt8), k + i = m2 ∧ vi = .int .i64 i ∧ vo = .slice a' zs.length cap' ∧ frsOK (l.take i) = true ∧ zs = xs ++ frsE (l.take i) ∧ zs.length ≤ m + 1000016 * i ∧ Bd w.heap.size wr a' zs.length cap' zs ∧ Below w.heap.size w wr)
  case atStart => exact ⟨0, a, m, xs, by omega, rfl, by rw [← HB.out.1], rfl, by simp [frsE], by have := HB.out.1; omega, by rw [← HB.out.1]; exact HB.out, Below.refl _ _⟩
  case round =>
    obtain ⟨i, a2', c2', zs, hi, rfl, rfl, hok, hz, hlen, ho, hk⟩ := hrel
    have HOK := Lib.hid hok
    have HZ := Lib.hid hz
    have HO := Lib.hid ho
    have HK := Lib.hid hk
    have HI := Lib.hid hi
    clear hok hz ho hk hi
    by_cases hik : i < m2
    · have hix : i < l.length := by have := HM.out; omega
      have hvr := HV.out wr HK.out
      obtain ⟨ht0, ht1, hfb⟩ := hvr.2.2 l[i] (List.getElem_mem hix)
      have hfl := HL.out l[i] (List.getElem_mem hix)
      have hget := HV.out
      obtain ⟨b2, off2, rfl, hblt, hcell⟩ := hvr.get (by omega)
      obtain ⟨hc0, hc1⟩ := hcell i hix
      have hsz : w.heap.size ≤ wr.heap.size := HK.out.size
      have HFN : Hid (l[i].n = l[i].xs.length) := hfb.1
      clear hcell hvr hfb hget
      generalize hf : l[i] = f at *
      obtain ⟨ft, fa, fn, fcap, fxs⟩ := f
      simp only at hc0 hc1 ht0 ht1 hfl HFN
      have HF := Lib.hid hf
      clear hf
      go_wp2_with fail
      have HNE : Hid (c2' = zs.length ∨ ∀ b, (some (⟨wr.heap.size, 0, none⟩ : Addr)).map (·.block) = some b → a2'.map (·.block) ≠ some b) := by
        show _ ∨ _
        rcases HO.out.2 with hown | ⟨hc, _⟩
        · refine .inr (fun b hb e => ?_)
          have hbe : wr.heap.size = b := by simpa using hb
          subst hbe
          have := (Bo.ge (⟨HO.out.1, hown⟩ : Bo w.heap.size wr a2' zs.length c2' zs) _ e).2
          omega
        · exact .inl hc
      have HWR : Hid (IntKind.u64.wrap (fn : Int) = fn) := by show _ = _; rw [IntKind.wrap_u64]; omega
      have HOD : Hid (Bd w.heap.size (wr.alloc (.cells #[.int .u64 ft, .int .u64 (fn : Int)] 31 (0, 0))).drew a2' zs.length c2' zs) := HO.out.keep (((Keeps.refl (fun _ => False) wr).alloc _).drew) (fun _ _ h => h)
      have hu := Uv.two wr 31 ft (fn : Int) ht0 ht1 (by omega) (by omega)
      have HUD : Hid (Uv (wr.alloc (.cells #[.int .u64 ft, .int .u64 (fn : Int)] 31 (0, 0))).drew (some ⟨wr.heap.size, 0, none⟩) 2 2 [ft, (fn : Int)]) := ⟨hu.1, hu.2.1.drew, hu.2.2⟩
      have hszd : w.heap.size ≤ (wr.alloc (.cells #[.int .u64 ft, .int .u64 (fn : Int)] 31 (0, 0))).drew.heap.size := by show _ ≤ (wr.alloc _).heap.size; simp; omega
      clear hu
      go_region_with (go_at_call 14; rw [HWR.out]; refine (varsr_b w.heap.size a2' zs.length c2' zs _ 2 2 [ft, (fn : Int)] _ HOD.out HUD.out hszd HNE.out (by omega) (by omega)).mono ?_; rintro e w3 ⟨a3, n3, c3, rfl, ho3, hk3⟩)
      all_goals (
        have HK3 := Lib.hid ((HK.out.alloc hsz _).drew.trans hk3)
        have HO3 := Lib.hid ho3
        have hsz3 : w.heap.size ≤ w3.heap.size := HK3.out.size
        have hvr3 := HV.out w3 HK3.out
        have HFB3 := Lib.hid (hvr3.2.2 l[i] (List.getElem_mem hix)).2.2
        obtain ⟨b3, off3, hae, _, hcell3⟩ := hvr3.get (by omega)
        cases hae
        have hd1 := (hcell3 i hix).2
        rw [HF.out] at HFB3 hd1
        simp only at HFB3 hd1
        clear ho3 hk3 hvr3 hcell3
        by_cases hov : varsOK [ft, (fn : Int)] = true
        · have he : varsErr [ft, (fn : Int)] = 0 := by unfold varsErr; rw [hov]; rfl
          have hx : Hid (varsR zs [ft, (fn : Int)] = zs ++ varsE [ft, (fn : Int)]) := by show _ = _; unfold varsR; rw [hov, if_pos rfl]
          have HOV : Hid (frOK l[i] = true) := by show _ = _; rw [HF.out]; unfold frOK; simp only; rw [← HFN.out]; exact hov
          have hvl := varsE_two ft (fn : Int)
          have hn3 : n3 = zs.length + (varsE [ft, (fn : Int)]).length := by have := HO3.out.1; rwa [hx.out, List.length_append] at this
          have HN3 := Lib.hid hn3
          have hn3b : n3 ≤ zs.length + 16 := by omega
          rw [he]
          clear he hov hn3 hvl
          go_wp2_with (at_builtin; refine halt ?_)
          refine Halted.go (wpList_app8 w3 rfl _ _ 22 rfl w.heap.size a3 _ c3 (zs ++ varsE [ft, (fn : Int)]) rfl (by have h := HO3.out; rw [hx.out] at h; exact h) (.slice fa fn fcap) (by go_simp) fxs (by have h := HFB3.out.2.src Try.underlying22 (Bs_one fxs); rw [HFN.out] at h ⊢; exact h) (by have := HFN.out; omega) hsz3 ?_)
          intro a4 c4 w4 ho4 hk4 hn4 _ _
          have HO4 := Lib.hid ho4
          have HK4 := Lib.hid (Keeps.mine_below HK3.out hk4 HK3.out.size (Nat.le_refl _))
          clear ho4 hk4 hn4
          go_wp2_with fail
          obtain ⟨k', rfl⟩ : ∃ k', gk = k' + 1 := ⟨gk - 1, by have := HI.out; omega⟩
          go_roundg k'
          case measure => omega
          case rel =>
            have hfe : frE l[i] = varsE [ft, (fn : Int)] ++ fxs := by rw [HF.out]; unfold frE; simp only; rw [← HFN.out]
            have hnl : n3 + fxs.length = (zs ++ frE l[i]).length := by rw [hfe, HN3.out]; simp; omega
            refine ⟨i + 1, a4, c4, zs ++ frE l[i], by have := HI.out; omega, by go_num, by rw [hnl], frsOK_step hix HOK.out HOV.out, by rw [frsE_step hix, ← HZ.out], ?_, ?_, HK4.out⟩
            · rw [← hnl]; have := HFN.out; omega
            · rw [← hnl, hfe, ← List.append_assoc]; exact HO4.out
        · have he : varsErr [ft, (fn : Int)] = 21 := by unfold varsErr; rw [if_neg hov]
          have HOV : Hid (frsOK l = false) := by
            refine frsOK_not hix ?_
            rw [HF.out]
            unfold frOK
            simp only
            rw [← HFN.out]
            simpa using hov
          rw [he]
          clear he hov
          go_wp2_with fail
          go_returns
          refine ⟨none, 0, 0, by unfold frsErr; rw [HOV.out]; rfl, ?_, HK3.out⟩
          unfold frsR
          rw [HOV.out]
          exact By.nil _)
    · have hik2 : i = m2 := by have := HI.out; omega
      have HE : Hid (frsOK l = true) := by
        have := HOK.out
        rw [hik2, HM.out, List.take_length] at this
        exact this
      have HE2 : Hid (zs = xs ++ frsE l) := by
        have := HZ.out
        rw [hik2, HM.out, List.take_length] at this
        exact this
      clear hik2
      go_wp2_with fail
      go_returns
      refine ⟨a2', zs.length, c2', by unfold frsErr; rw [HE.out]; rfl, ?_, HK.out⟩
      unfold frsR
      rw [HE.out, if_pos rfl, ← HE2.out]
      exact HO.out.by

end Go.Proofs.Ytblgahhfhgdpiaa
