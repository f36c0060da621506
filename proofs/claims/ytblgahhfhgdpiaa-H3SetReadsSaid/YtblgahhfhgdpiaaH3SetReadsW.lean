/- The walk of H3SetReads. -/
import Derived.Test.YtblgahhfhgdpiaaH3M
import Derived.Deep.DeepCutAuto
namespace Go.Proofs.Ytblgahhfhgdpiaa
open Go.RowKit Go.Deep Go.Maps

/-- An argument that is a frame. -/
theorem Arg.frame {w : World} {v : Value} (h : Arg Try.prog w 33 v) : ∃ t a n cap xs, v = .agg #[.int .u64 t, .slice a n cap] ∧ inU t ∧ ∀ w', Below w.heap.size w w' → By w' a n cap xs := by
  obtain ⟨⟨base, hv⟩, H, enc, d, p, hd⟩ := h
  obtain ⟨v0, v1, y0, y1, n, rfl, _, _, h0, h1⟩ := Joins.open_agg2 Try.underlying33 (by kernel_rfl) (by kernel_rfl) hv hd
  have r0 : Rd Try.prog w 31 v0 := ⟨H, enc, n, _, h0⟩
  have r1 : Rd Try.prog w 22 v1 := ⟨H, enc, n, _, h1⟩
  obtain ⟨t, rfl, hw⟩ := r0.int Try.underlying31
  obtain ⟨a, n', cap, xs, rfl, hk⟩ := r1.bytes
  exact ⟨t, a, n', cap, xs, rfl, wf_u64_iff hw, hk⟩

/-- A byte of a row, turned. -/
theorem xor8 (c : UInt8) (x : Int) (h0 : 0 ≤ x) (h1 : x ≤ 255) : ∃ d : UInt8, Value.int .u8 (bits .xor .u8 (c.toNat : Int) x) = B d := by
  have hc := c.toNat_lt
  rw [u8_xor (c.toNat : Int) x (by omega) (by omega) h0 (by omega)]
  have hx : (c.toNat : Int).toNat ^^^ x.toNat < 2 ^ 8 := Nat.xor_lt_two_pow (by omega) (by omega)
  generalize (c.toNat : Int).toNat ^^^ x.toNat = y at *
  refine ⟨byt (y : Int), ?_⟩
  rw [← B_byt, Int.emod_eq_of_lt (by omega) (by omega)]

set_option maxHeartbeats 3200000 in
theorem walkH3SetReads (w : World) (v0 : Value) (h0 : Arg Try.prog w 33 v0) (v1 : Value) (h1 : Arg Try.prog w 45 v1) (p : Int) (hp : (Lit.int .u16 p).wf = true) (x : Int) (hx : (Lit.int .u8 x).wf = true) :
    Calls Try.prog 6 #[v0, v1, .int .u16 p, .int .u8 x] w fun e w' => e = .returned (.bool true) ∧ Below w.heap.size w w' := by
  obtain ⟨t, a, m, cap, xs, rfl, ⟨t0, t1⟩, hkeep0⟩ := h0.frame
  obtain ⟨a1, n, cap1, l, rfl, hkeep⟩ := h1.sets
  obtain ⟨p0, p1⟩ := wf_u16_iff hp
  obtain ⟨x0, x1⟩ := wf_u8_iff hx
  have hby := hkeep0 w (Below.refl _ _)
  have hsv := hkeep w (Below.refl _ _)
  have HK0 := Lib.hid hkeep0
  have HKEEP := Lib.hid hkeep
  have hcap := hby.2.le
  have hmax := hby.2.max
  have hcap1 := hsv.2.1.le
  have hmax1 := hsv.2.1.max
  have HXM : Hid (m = xs.length) := hby.1
  have HN : Hid (n = l.length) := hsv.1
  unfold maxLen at hmax hmax1
  clear hsv hkeep h0 h1 hby hkeep0 hp hx
  go_enter Try.func6, Try.ntmps6
  go_wp2_with fail
  refine (known_any _).mono ?_
  rintro e w1 ⟨rfl, hk1⟩
  have hF := (Below.keeps hk1).blk (Blk.new w #[.int .u64 t, .slice a m cap] 33) (by simp)
  have q1 : w1.cell? ⟨w.heap.size, 1, none⟩ = some (.slice a m cap) := hF.cell 1
  have HK := Lib.hid ((((Below.refl w.heap.size w).alloc (Nat.le_refl _) (.cells #[.int .u64 t, .slice a m cap] 33 (0, 0)))).trans (hk1.mono (by simp)))
  have hs1 : w.heap.size + 1 ≤ w1.heap.size := by have := hk1.size; simp at this; exact this
  have HF := Lib.hid hF
  clear hk1 hF
  by_cases hm : 200 < m
  · go_wp2_with fail
    go_returns
    exact ⟨rfl, HK.out⟩
  · by_cases hn : 10 < n
    · go_wp2_with fail
      go_returns
      exact ⟨rfl, HK.out⟩
    · go_wp2_with fail
      refine (setr_any a1 n cap1 l w1 (fun w' hb => HKEEP.out w' (HK.out.trans (hb.mono HK.out.size)))).mono ?_
      rintro e w2 ⟨a2, n2, c2, rfl, ho2, hk2⟩
      have hn2 : n2 ≤ 10000 := by have h1 := ho2.1; have h2 := setB_le l; have h3 := HN.out; omega
      generalize setErr l = er at *
      generalize setT l = tt at *
      generalize setB l = bs at *
      have HF2 := Lib.hid (((Below.keeps hk2).blk HF.out (by omega)).alloc (.cells #[.int .u64 tt, .slice a2 n2 c2] 33 (0, 0)))
      have HG2 := Lib.hid (Blk.new w2 #[.int .u64 tt, .slice a2 n2 c2] 33)
      have hs2 : w1.heap.size ≤ w2.heap.size := hk2.size
      have HO2 := Lib.hid (ho2.keep ((Keeps.refl (fun _ => False) w2).alloc (.cells #[.int .u64 tt, .slice a2 n2 c2] 33 (0, 0))) (fun _ _ h => h))
      have HLT2 : Hid (∀ b, a2.map (·.block) = some b → w1.heap.size ≤ b ∧ b < w2.heap.size) := ho2.ge
      have HK2 := Lib.hid ((HK.out.trans (hk2.mono HK.out.size)).alloc (by omega) (.cells #[.int .u64 tt, .slice a2 n2 c2] 33 (0, 0)))
      have hsa : (w2.alloc (.cells #[.int .u64 tt, .slice a2 n2 c2] 33 (0, 0))).heap.size = w2.heap.size + 1 := by simp
      have HSA := Lib.hid hsa
      clear ho2 hk2 q1 hsa
      have z1 : (w2.alloc (.cells #[.int .u64 tt, .slice a2 n2 c2] 33 (0, 0))).cell? ⟨w2.heap.size, 1, none⟩ = some (.slice a2 n2 c2) := HG2.out.cell 1
      go_upto_if 37 with fail
      generalize w2.alloc (.cells #[.int .u64 tt, .slice a2 n2 c2] 33 (0, 0)) = w3 at *
      go_cut [] (fun wx => ∃ bs' : List UInt8, Bo w1.heap.size wx a2 n2 c2 bs' ∧ Below w.heap.size w wx ∧ Blk wx w.heap.size #[.int .u64 t, .slice a m cap] 33 ∧ Blk wx w2.heap.size #[.int .u64 tt, .slice a2 n2 c2] 33 ∧ w2.heap.size + 1 ≤ wx.heap.size)
      case first =>
        by_cases hz : n2 = 0
        · have hz2 : (n2 : Int) ≤ 0 := by omega
          go_wp2_with fail
          go_meet
          exact ⟨bs, HO2.out, HK2.out, HF2.out, HG2.out, by rw [HSA.out]; omega⟩
        · have hpos : 0 < n2 := by omega
          obtain ⟨g, rfl, hg0, hg1, hcell, hfree⟩ := HO2.out.row hpos
          obtain ⟨j, hj⟩ : ∃ j : Nat, p % (n2 : Int) = j := ⟨(p % (n2 : Int)).toNat, by have := Int.emod_nonneg p (show (n2 : Int) ≠ 0 by omega); omega⟩
          have hjI : (j : Int) < (n2 : Int) := by rw [← hj]; exact Int.emod_lt_of_pos _ (by omega)
          have hj0 : (0 : Int) ≤ (j : Int) := by omega
          have hjb : j < bs.length := by have := HO2.out.1; omega
          have e1 : w3.drew.cell? ⟨g, j, none⟩ = some (.int .u8 (bs[j].toNat : Int)) := hcell j hjb
          have e2 : w3.drew.frozen? ⟨g, j, none⟩ = false := hfree j
          have e3 : w3.drew.cell? ⟨w2.heap.size, 1, none⟩ = some (.slice (some ⟨g, 0, none⟩) n2 c2) := z1
          have hgh := HLT2.out g rfl
          obtain ⟨d, hd⟩ := xor8 bs[j] x x0 x1
          have HD := Lib.hid hd
          clear hcell hfree hd
          go_wp2_with fail
          go_region
          all_goals (
            rw [HD.out]
            have ho := (HO2.out.keep ((Keeps.refl (fun _ => False) w3).drew) (fun _ _ h => h)).set j (by omega) d
            have hk := HK2.out.drew.setCell (p := ⟨g, j, none⟩) (by show w.heap.size ≤ g; omega) (B d)
            have hf := (HF2.out.drew).set_ne (a := ⟨g, j, none⟩) (by show w.heap.size ≠ g; omega) (B d)
            have hg := (HG2.out.drew).set_ne (a := ⟨g, j, none⟩) (by show w2.heap.size ≠ g; omega) (B d)
            go_wp2_with fail
            go_meet
            exact ⟨_, ho, hk, hf, hg, by show _ ≤ (w3.setCell _ _).heap.size; rw [World.size_setCell, HSA.out]; omega⟩)
      case rest =>
        obtain ⟨bs', ho, hk, hf, hg, hs⟩ := hcut
        have f0 : wc.cell? ⟨w.heap.size, 0, none⟩ = some (.int .u64 t) := hf.cell 0
        have f1 : wc.cell? ⟨w.heap.size, 1, none⟩ = some (.slice a m cap) := hf.cell 1
        have f2 : (wc.alloc (.cells #[.int .u64 4, .slice a m cap] 33 (0, 0))).cell? ⟨w.heap.size, 0, none⟩ = some (.int .u64 t) := (hf.alloc _).cell 0
        have f3 : (wc.alloc (.cells #[.int .u64 4, .slice a m cap] 33 (0, 0))).cell? ⟨w.heap.size, 1, none⟩ = some (.slice a m cap) := (hf.alloc _).cell 1
        have f4 : (wc.alloc (.cells #[.int .u64 4, .slice a m cap] 33 (0, 0))).cell? ⟨w2.heap.size, 0, none⟩ = some (.int .u64 tt) := (hg.alloc _).cell 0
        have f5 : (wc.alloc (.cells #[.int .u64 4, .slice a m cap] 33 (0, 0))).cell? ⟨w2.heap.size, 1, none⟩ = some (.slice a2 n2 c2) := (hg.alloc _).cell 1
        have HK5 := Lib.hid ((hk.alloc (by omega) (.cells #[.int .u64 4, .slice a m cap] 33 (0, 0))).alloc (by simp; omega) (.cells #[.int .u64 t, .slice a m cap, .int .u64 4, .slice a m cap, .int .u64 tt, .slice a2 n2 c2] 33 (0, 0)))
        have hb5 := Blk.new (wc.alloc (.cells #[.int .u64 4, .slice a m cap] 33 (0, 0))) #[.int .u64 t, .slice a m cap, .int .u64 4, .slice a m cap, .int .u64 tt, .slice a2 n2 c2] 33
        rw [World.size_alloc] at hb5
        have hy5 := (ho.by.alloc (.cells #[.int .u64 4, .slice a m cap] 33 (0, 0))).alloc (.cells #[.int .u64 t, .slice a m cap, .int .u64 4, .slice a m cap, .int .u64 tt, .slice a2 n2 c2] 33 (0, 0))
        have hsz5 : ((wc.alloc (.cells #[.int .u64 4, .slice a m cap] 33 (0, 0))).alloc (.cells #[.int .u64 t, .slice a m cap, .int .u64 4, .slice a m cap, .int .u64 tt, .slice a2 n2 c2] 33 (0, 0))).heap.size = wc.heap.size + 2 := by simp
        have HB5 := Lib.hid hb5
        have HY5 := Lib.hid hy5
        have HSZ := Lib.hid hsz5
        clear ho hk hf hg hb5 hy5 hsz5
        go_wp2_with fail
        generalize (wc.alloc (.cells #[.int .u64 4, .slice a m cap] 33 (0, 0))).alloc (.cells #[.int .u64 t, .slice a m cap, .int .u64 4, .slice a m cap, .int .u64 tt, .slice a2 n2 c2] 33 (0, 0)) = w5 at *
        clear f0 f1 f2 f3 f4 f5
        go_loopg [58] 3 (fun k vi wr => ∃ (i : Nat), k + i = 3 ∧ vi = .int .i64 i ∧ Below w5.heap.size w5 wr)
        case atStart => exact ⟨0, by omega, rfl, Below.refl _ _⟩
        case round =>
          obtain ⟨i, hi, rfl, hkw⟩ := hrel
          have HI := Lib.hid hi
          have HKW := Lib.hid hkw
          clear hi hkw
          have hsw : w5.heap.size ≤ wr.heap.size := HKW.out.size
          have HKR := Lib.hid (HK5.out.trans (HKW.out.mono HK5.out.size))
          by_cases hi3 : i < 3
          · have hy : ∃ (ty : Int) (ay : Option Addr) (ny cy : Nat) (ys : List UInt8), wr.cell? ⟨wc.heap.size + 1, i * 2, none⟩ = some (.int .u64 ty) ∧ wr.cell? ⟨wc.heap.size + 1, i * 2 + 1, none⟩ = some (.slice ay ny cy) ∧ ny ≤ 10000 ∧ ∀ w', Below wr.heap.size wr w' → By w' ay ny cy ys := by
              have hb := (Below.keeps HKW.out).blk HB5.out (by rw [HSZ.out]; omega)
              have hcase : i = 0 ∨ i = 1 ∨ i = 2 := by omega
              rcases hcase with rfl | rfl | rfl
              · exact ⟨t, a, m, cap, xs, by rw [hb.cell]; rfl, by rw [hb.cell]; rfl, by omega, fun w' h => HK0.out w' (HKR.out.trans (h.mono HKR.out.size))⟩
              · exact ⟨4, a, m, cap, xs, by rw [hb.cell]; rfl, by rw [hb.cell]; rfl, by omega, fun w' h => HK0.out w' (HKR.out.trans (h.mono HKR.out.size))⟩
              · exact ⟨tt, a2, n2, c2, bs', by rw [hb.cell]; rfl, by rw [hb.cell]; rfl, hn2, fun w' h => HY5.out.below (HKW.out.trans (h.mono hsw)) (fun b hb => by rw [HSZ.out]; have := (HLT2.out b hb).2; omega)⟩
            obtain ⟨ty, ay, ny, cy, ys, hc0, hc1, hny, hst⟩ := hy
            have hi0 : (0 : Int) ≤ (i : Int) := by omega
            have ST1 : Hid (Stay (wr.alloc (.cells #[.int .u64 ty, .slice ay ny cy] 33 (0, 0))).heap.size (wr.alloc (.cells #[.int .u64 ty, .slice ay ny cy] 33 (0, 0))) ay ny cy ys) :=
              fun w' hb => hst w' (((Below.refl _ wr).alloc (Nat.le_refl _) _).trans (hb.mono (by simp)))
            have HST := Lib.hid hst
            clear hst
            go_wp2_with fail
            refine (rset_any ty ay ny cy ys _ ST1.out (by omega)).mono ?_
            rintro e w7 ⟨a7, n7, c7, rfl, ho7, hk7⟩
            generalize hrs : rsR ty ys = rs at *
            have HRS := Lib.hid hrs
            clear hrs
            obtain ⟨ms, r⟩ := rs
            have hx7 := (Below.keeps hk7).blk (Blk.new wr #[.int .u64 ty, .slice ay ny cy] 33) (by simp)
            have p2 : w7.cell? ⟨wr.heap.size, 0, none⟩ = some (.int .u64 ty) := hx7.cell 0
            have p3 : w7.cell? ⟨wr.heap.size, 1, none⟩ = some (.slice ay ny cy) := hx7.cell 1
            have hk7w := ((Below.refl _ wr).alloc (Nat.le_refl _) (.cells #[.int .u64 ty, .slice ay ny cy] 33 (0, 0))).trans (hk7.mono (by simp))
            have HK7 := Lib.hid hk7w
            have ST2 : Hid (Stay w7.heap.size w7 ay ny cy ys) := fun w' hb => HST.out w' (HK7.out.trans (hb.mono HK7.out.size))
            have HO7 := Lib.hid ho7
            clear ho7 hk7 hx7 hk7w
            go_wp2_with fail
            refine (rsetr_any ty ay ny cy ys w7 ST2.out (by omega)).mono ?_
            rintro e w8 ⟨a8, n8, c8, rfl, ho8, hk8⟩
            rw [HRS.out]
            rw [HRS.out] at ho8
            simp only at ho8
            have HK8 := Lib.hid ((HKW.out.trans (HK7.out.mono hsw)).trans (hk8.mono (Nat.le_trans hsw HK7.out.size)))
            have HSV7 := Lib.hid (HO7.out.below hk8).sv
            have HSV8 := Lib.hid ho8.sv
            clear ho8 hk8 p2 p3 hc0 hc1
            go_wp2_with fail
            refine (helpset_any a7 n7 c7 ms a8 n8 c8 ms w8 HSV7.out HSV8.out).mono ?_
            rintro e w' ⟨rfl, q, rfl⟩
            simp only [decide_true]
            go_wp2_with fail
            obtain ⟨g, rfl⟩ : ∃ g, gk = g + 1 := ⟨gk - 1, by have := HI.out; omega⟩
            go_roundg g
            case measure => omega
            case rel => exact ⟨i + 1, by have := HI.out; omega, by go_num, Below.drewN' HK8.out q⟩
          · go_wp2_with fail
            go_returns
            exact ⟨rfl, HKR.out⟩

end Go.Proofs.Ytblgahhfhgdpiaa
