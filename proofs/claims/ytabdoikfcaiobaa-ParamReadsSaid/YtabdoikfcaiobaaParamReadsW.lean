/- The walk of ParamReads. -/
import Derived.Test.YtabdoikfcaiobaaParamBackW
import Derived.Test.YtabdoikfcaiobaaParM
import Derived.Deep.DeepCutAuto
namespace Go.Proofs.Ytabdoikfcaiobaa
open Go.RowKit Go.Deep Go.Maps

/-- Its block is there. -/
theorem Arg.lt {P : Program} {w : World} {t e : TypeId} {a : Option Addr} {n cap : Nat} (h : Arg P w t (.slice a n cap)) (ht : P.underlying t = some (.slice e)) : ∀ b, a.map (·.block) = some b → b < w.heap.size := by
  intro b hb
  obtain ⟨⟨base, hv⟩, _⟩ := h
  cases a with
  | none => cases hb
  | some a =>
    cases hb
    simp only [Value.okWide, ht, Cell.okWide, Cell.ok, World.has] at hv
    obtain ⟨_, _, _, _, row, cells, hs, _⟩ := hv
    unfold World.shape? at hs
    split at hs
    · rename_i hh; exact lt_of_block hh
    · cases hs

/-- A byte of a row, turned. -/
theorem xor8 (c : UInt8) (x : Int) (h0 : 0 ≤ x) (h1 : x ≤ 255) : ∃ d : UInt8, Value.int .u8 (bits .xor .u8 (c.toNat : Int) x) = B d := by
  have hc := c.toNat_lt
  rw [u8_xor (c.toNat : Int) x (by omega) (by omega) h0 (by omega)]
  have hx : (c.toNat : Int).toNat ^^^ x.toNat < 2 ^ 8 := Nat.xor_lt_two_pow (by omega) (by omega)
  generalize (c.toNat : Int).toNat ^^^ x.toNat = y at *
  refine ⟨byt (y : Int), ?_⟩
  rw [← B_byt, Int.emod_eq_of_lt (by omega) (by omega)]

/-- The first bytes of a slice. -/
theorem By.pre {w : World} {a : Option Addr} {n cap : Nat} {xs : List UInt8} (h : By w a n cap xs) {k : Nat} (hk : k ≤ n) : By w a k cap (xs.take k) := by
  have := h.mid 0 k (Nat.zero_le _) hk
  have e : offA a cap 0 = a := by
    unfold offA
    split
    · rfl
    · cases a with
      | none => rfl
      | some p => simp [Addr.add]
  rwa [e, Nat.sub_zero, Nat.sub_zero, List.drop_zero] at this

theorem paR_le (w : World) (a : Option Addr) (n cap : Nat) (l : List Fr) (hv : Hv w a n cap l) (h : lightB l = true) : (paR l).length ≤ 1000000 := by
  obtain ⟨hl40, hl60⟩ := light_le h
  have h1 : ∀ l : List Fr, (∀ f ∈ l, f.n ≤ 60 ∧ f.n = f.xs.length) → (frsE l).length ≤ 76 * l.length := by
    intro l
    induction l with
    | nil => intro _; simp [frsE]
    | cons f l ih =>
      intro h
      have hf := h f List.mem_cons_self
      have := ih (fun g hg => h g (List.mem_cons_of_mem _ hg))
      have h2 := varsE_two f.t (f.xs.length : Int)
      rw [frsE_cons, List.length_append]
      unfold frE
      simp only [List.length_append, List.length_cons]
      omega
  have h2 := h1 l (fun f hf => ⟨hl60 f hf, (hv.2.2 f hf).2.2.1⟩)
  unfold paR
  split
  · omega
  · simp

set_option maxHeartbeats 1600000 in
theorem walkParamReads (w : World) (v0 : Value) (h0 : Arg Try.prog w 25 v0) (v1 : Value) (h1 : Arg Try.prog w 22 v1) (at_ : Int) (w2 : (Lit.int .u16 at_).wf = true) (x : Int) (w3 : (Lit.int .u8 x).wf = true) (cut : Bool) :
    Calls Try.prog 4 #[v0, v1, .int .u16 at_, .int .u8 x, .bool cut] w fun e w' => e = .returned (.bool true) ∧ Below w.heap.size w w' := by
  obtain ⟨p0, p1⟩ := wf_u16_iff w2
  obtain ⟨x0, x1⟩ := wf_u8_iff w3
  obtain ⟨ar, nr, cr, xs, rfl, hbr, hbw⟩ := h0.bytes
  have HLT := Lib.hid (h0.lt Try.underlying25)
  have HBW := Lib.hid hbw
  obtain ⟨a, n, cap, l, rfl, hv⟩ := h1.params
  have HV := Lib.hid hv
  clear hv h0 h1 hbr hbw w2 w3
  go_enter Try.func4, Try.ntmps4
  go_wp2_with fail
  refine (known_any w).mono ?_
  rintro e w1 ⟨rfl, hk1⟩
  have HK1 := Lib.hid hk1
  clear hk1
  by_cases hr : 300 < nr
  · go_wp2_with fail
    go_returns
    exact ⟨rfl, HK1.out⟩
  · go_wp2_with fail
    refine (light_any a n cap l w1 (HV.out w1 HK1.out)).mono ?_
    rintro e w1' ⟨rfl, rfl⟩
    cases hlt : lightB l with
    | false =>
      have HL := Lib.hid hlt
      clear hlt
      go_wp2_with fail
      go_returns
      exact ⟨rfl, HK1.out⟩
    | true =>
      obtain ⟨hl40, hl60⟩ := light_le hlt
      have H60 : Hid (∀ f ∈ l, f.n ≤ 1000000) := Lib.hid (fun f hf => by have := hl60 f hf; omega)
      have hle := paR_le w1 a n cap l (HV.out w1 HK1.out) hlt
      clear hlt hl40 hl60
      go_wp2_with fail
      refine (pwrite_any a n cap l w1 (fun w'' h => HV.out w'' (HK1.out.trans (h.mono HK1.out.size))) H60.out).mono ?_
      rintro e w2 ⟨a2, n2, c2, rfl, ho2, hk2⟩
      have hn2 : n2 ≤ 1000000 := by have := ho2.1; omega
      have HO2 := Lib.hid ho2
      have HK2 := Lib.hid (HK1.out.trans (hk2.mono HK1.out.size))
      have hs2 : w1.heap.size ≤ w2.heap.size := hk2.size
      have hs1 : w.heap.size ≤ w1.heap.size := HK1.out.size
      have HLT2 : Hid (∀ b, a2.map (·.block) = some b → w1.heap.size ≤ b ∧ b < w2.heap.size) := ho2.ge
      clear ho2 hk2
      generalize paR l = bs at *
      generalize paErr l = er at *
      go_upto_if 37 with fail
      go_cut [11] (fun vb wx => ∃ (ab : Option Addr) (nb cb : Nat) (bs' : List UInt8), vb = .slice ab nb cb ∧ nb ≤ 1000000 ∧ By wx ab nb cb bs' ∧ (∀ b, ab.map (·.block) = some b → b < w2.heap.size) ∧ Below w.heap.size w wx ∧ w2.heap.size ≤ wx.heap.size)
      case first =>
        by_cases hz : n2 = 0
        · have hz2 : (n2 : Int) ≤ 0 := by omega
          go_wp2_with fail
          go_meet
          exact ⟨a2, n2, c2, bs, rfl, hn2, HO2.out.by, fun b hb => (HLT2.out b hb).2, HK2.out, Nat.le_refl _⟩
        · have hpos : 0 < n2 := by omega
          obtain ⟨g, rfl, hg0, hg1, hcell, hfree⟩ := HO2.out.row hpos
          obtain ⟨j, hj⟩ : ∃ j : Nat, at_ % (n2 : Int) = j := ⟨(at_ % (n2 : Int)).toNat, by have := Int.emod_nonneg at_ (show (n2 : Int) ≠ 0 by omega); omega⟩
          have hjI : (j : Int) < (n2 : Int) := by rw [← hj]; exact Int.emod_lt_of_pos _ (by omega)
          have hj0 : (0 : Int) ≤ (j : Int) := by omega
          have hjb : j < bs.length := by have := HO2.out.1; omega
          have e1 : w2.cell? ⟨g, j, none⟩ = some (.int .u8 (bs[j].toNat : Int)) := hcell j hjb
          have e2 : w2.frozen? ⟨g, j, none⟩ = false := hfree j
          have hgh := HLT2.out g rfl
          obtain ⟨d, hd⟩ := xor8 bs[j] x x0 x1
          have HD := Lib.hid hd
          have HCAP := Lib.hid HO2.out.by.2.le
          have hcap := HCAP.out
          clear hcell hfree hd
          go_wp2_with fail
          all_goals (
            have ho := HO2.out.set j (by omega) d
            have hk := HK2.out.setCell (p := ⟨g, j, none⟩) (by show w.heap.size ≤ g; omega) (B d)
            rw [HD.out]
            go_meet)
          · exact ⟨some ⟨g, 0, none⟩, j, c2, (bs.set j d).take j, rfl, by omega, ho.by.pre (by omega), fun b hb => (HLT2.out b hb).2, hk, by rw [World.size_setCell]; omega⟩
          · exact ⟨some ⟨g, 0, none⟩, n2, c2, bs.set j d, rfl, by omega, ho.by, fun b hb => (HLT2.out b hb).2, hk, by rw [World.size_setCell]; omega⟩
      case rest =>
        obtain ⟨ab, nb, cb, bs', rfl, hnb, hby, hlt2, hk, hs⟩ := hcut
        have HK5 := Lib.hid (hk.alloc (by omega) (.cells #[.slice ar nr cr, .slice ab nb cb] 25 (0, 0)))
        have HB5 := Lib.hid (Blk.new wc #[.slice ar nr cr, .slice ab nb cb] 25)
        have HY5 := Lib.hid (hby.alloc (.cells #[.slice ar nr cr, .slice ab nb cb] 25 (0, 0)))
        have HSZ : Hid ((wc.alloc (.cells #[.slice ar nr cr, .slice ab nb cb] 25 (0, 0))).heap.size = wc.heap.size + 1) := Lib.hid (by simp)
        have HLTB := Lib.hid hlt2
        clear hby hlt2 hk
        go_wp2_with fail
        generalize (wc.alloc (.cells #[.slice ar nr cr, .slice ab nb cb] 25 (0, 0))) = w5 at *
        go_loopg [58] 2 (fun k vi wr => ∃ (i : Nat), k + i = 2 ∧ vi = .int .i64 i ∧ Below w5.heap.size w5 wr)
        case atStart => exact ⟨0, by omega, rfl, Below.refl _ _⟩
        case round =>
          obtain ⟨i, hi, rfl, hkw⟩ := hrel
          have HI := Lib.hid hi
          have HKW := Lib.hid hkw
          clear hi hkw
          have hsw : w5.heap.size ≤ wr.heap.size := HKW.out.size
          have HKR := Lib.hid (HK5.out.trans (HKW.out.mono HK5.out.size))
          by_cases hi2 : i < 2
          · have hy : ∃ (ay : Option Addr) (ny cy : Nat) (ys : List UInt8), wr.cell? ⟨wc.heap.size, i, none⟩ = some (.slice ay ny cy) ∧ ny ≤ 1000000 ∧ (∀ w', Below wr.heap.size wr w' → By w' ay ny cy ys) ∧ ∀ b, ay.map (·.block) = some b → b < wr.heap.size := by
              have hb := (Below.keeps HKW.out).blk HB5.out (by rw [HSZ.out]; omega)
              have hcase : i = 0 ∨ i = 1 := by omega
              rcases hcase with rfl | rfl
              · exact ⟨ar, nr, cr, xs, by rw [hb.cell]; rfl, by omega, fun w'' h => HBW.out w'' (HKR.out.trans (h.mono HKR.out.size)), fun b hb => by have := HLT.out b hb; have := HKR.out.size; omega⟩
              · exact ⟨ab, nb, cb, bs', by rw [hb.cell]; rfl, by omega, fun w'' h => HY5.out.below (HKW.out.trans (h.mono hsw)) (fun b hb => by rw [HSZ.out]; have := HLTB.out b hb; omega), fun b hb => by have := HLTB.out b hb; have := HSZ.out; omega⟩
            obtain ⟨ay, ny, cy, ys, hc0, hny, hst, hyl⟩ := hy
            have hi0 : (0 : Int) ≤ (i : Int) := by omega
            have HST := Lib.hid hst
            have HYL := Lib.hid hyl
            clear hst hyl
            go_wp2_with fail
            refine (qread_any ay ny cy ys wr (HST.out wr (Below.refl _ _)) (by omega) HYL.out).mono ?_
            rintro e w7 ⟨hk7, h7⟩
            have HK7 := Lib.hid hk7
            have hs7 := hk7.size
            clear hk7 hc0
            cases hrd : rdR ys with
            | none =>
              have HRD := Lib.hid hrd
              rw [hrd] at h7
              subst h7
              clear hrd
              go_wp2_with fail
              refine (pread_any ay ny cy ys w7 (HST.out w7 HK7.out) (by omega) (fun b hb => by have := HYL.out b hb; omega)).mono ?_
              rintro e w8 ⟨hk8, h8⟩
              have HK8 := Lib.hid ((HKW.out.trans (HK7.out.mono hsw)).trans (hk8.mono (Nat.le_trans hsw hs7)))
              clear hk8
              rw [HRD.out] at h8
              subst h8
              go_wp2_with fail
              refine (params_same none none 0 0 0 0 [] [] w8 ⟨rfl, Vw.nil w8 _, fun f hf => by cases hf⟩ ⟨rfl, Vw.nil w8 _, fun f hf => by cases hf⟩ rfl).mono ?_
              rintro e w9 ⟨rfl, hk9⟩
              have HK9 := Lib.hid (HK8.out.trans (hk9.mono HK8.out.size))
              clear hk9
              go_wp2_with fail
              obtain ⟨g, rfl⟩ : ∃ g, gk = g + 1 := ⟨gk - 1, by have := HI.out; omega⟩
              go_roundg g
              case measure => omega
              case rel => exact ⟨i + 1, by have := HI.out; omega, by go_num, HK9.out⟩
            | some out =>
              have HRD := Lib.hid hrd
              rw [hrd] at h7
              obtain ⟨a7, c7, l7, rfl, hl7, hp7⟩ := h7
              have HL7 := Lib.hid hl7
              have HP7 := Lib.hid hp7
              clear hrd hl7 hp7
              go_wp2_with fail
              refine (pread_any ay ny cy ys w7 (HST.out w7 HK7.out) (by omega) (fun b hb => by have := HYL.out b hb; omega)).mono ?_
              rintro e w8 ⟨hk8, h8⟩
              have HK8 := Lib.hid ((HKW.out.trans (HK7.out.mono hsw)).trans (hk8.mono (Nat.le_trans hsw hs7)))
              have HP78 := Lib.hid (HP7.out.below hk8)
              clear hk8
              rw [HRD.out] at h8
              obtain ⟨a8, c8, l8, rfl, hl8, hp8⟩ := h8
              have HSAME := Lib.hid (HL7.out.trans hl8.symm)
              have HP8 := Lib.hid hp8
              clear hl8 hp8
              go_wp2_with fail
              refine (params_same a7 a8 l7.length l8.length c7 c8 l7 l8 w8 HP78.out.hv HP8.out.hv HSAME.out).mono ?_
              rintro e w9 ⟨rfl, hk9⟩
              have HK9 := Lib.hid (HK8.out.trans (hk9.mono HK8.out.size))
              clear hk9
              go_wp2_with fail
              obtain ⟨g, rfl⟩ : ∃ g, gk = g + 1 := ⟨gk - 1, by have := HI.out; omega⟩
              go_roundg g
              case measure => omega
              case rel => exact ⟨i + 1, by have := HI.out; omega, by go_num, HK9.out⟩
          · go_wp2_with fail
            go_returns
            exact ⟨rfl, HKR.out⟩

end Go.Proofs.Ytabdoikfcaiobaa
