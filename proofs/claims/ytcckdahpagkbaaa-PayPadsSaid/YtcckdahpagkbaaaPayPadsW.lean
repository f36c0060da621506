/- The walk of PayPads. -/
import Derived.Test.YtcckdahpagkbaaaPayL
import Derived.Test.YtcckdahpagkbaaaPayH
import Derived.Test.YtcckdahpagkbaaaPayG
import Derived.Test.YtcckdahpagkbaaaNumG
import Derived.IntWalk
import Derived.Deep.DrawnRows
import Derived.Deep.RegionHeld3
namespace Go.Proofs.Ytcckdahpagkbaaa
open Go.RowKit Go.Deep

/-- string(b), as an equation on its run. -/
theorem By.cv {w : World} {a : Option Addr} {n cap : Nat} {xs : List UInt8} (h : By w a n cap xs) : (convert 28 9 (.slice a n cap)).run Try.prog w = .ok (.string ⟨xs.toArray⟩) w :=
  h.str _ 5 _ Try.underlying28 Try.underlying5 Try.underlying9

theorem Bo.grow {base : Nat} {w w' : World} {a : Option Addr} {n cap : Nat} {xs : List UInt8} (h : Bo base w a n cap xs) (hk : Below w.heap.size w w') : Bo base w' a n cap xs :=
  h.keep (Below.keeps hk) (fun b hb => by have := (h.ge b hb).2; omega)

set_option maxRecDepth 8000 in
set_option maxHeartbeats 3200000 in
theorem pads_data (w : World) (pr : Bool) (p z : UInt8) (a : Option Addr) (n cap : Nat) (xs : List UInt8) (hx : By w a n cap xs) :
    Calls Try.prog 5 #[.bool false, .bool pr, .int .u8 (p.toNat : Int), .slice a n cap, .int .u8 (z.toNat : Int)] w fun e w' => e = .returned (.bool true) ∧ Below w.heap.size w w' := by
  obtain ⟨rfl, hv⟩ := hx
  have HX : Hid (By w a xs.length cap xs) := Lib.hid ⟨rfl, hv⟩
  clear hv
  have HK0 := Lib.hid (Below.refl w.heap.size w)
  go_enter Try.func5, Try.ntmps5
  go_wp2_with fail
  refine (known_any _).mono ?_
  rintro e w1 ⟨rfl, hk1⟩
  have HK1 := Lib.hid hk1
  have HX1 := Lib.hid (HX.out.grow hk1)
  clear hk1
  by_cases hn : xs.length ≤ 100
  ·
      have HKA := Lib.hid ((HK1.out.alloc HK1.out.size (.cells #[.int .u8 (p.toNat : Int)] 5 (0, 0))).alloc (by have := HK1.out.size; simp; omega) (.cells #[.int .u8 0, .int .u8 8, .int .u32 1, .slice none 0 0] 30 (0, 0)))
      have HFB := Lib.hid (Blk.new (w1.alloc (.cells #[.int .u8 (p.toNat : Int)] 5 (0, 0))) #[.int .u8 0, .int .u8 8, .int .u32 1, .slice none 0 0] 30)
      simp only [World.size_alloc] at HFB
      have HXA := Lib.hid ((HX1.out.alloc (.cells #[.int .u8 (p.toNat : Int)] 5 (0, 0))).alloc (.cells #[.int .u8 0, .int .u8 8, .int .u32 1, .slice none 0 0] 30 (0, 0)))
      go_wp2_with (at_builtin; refine halt ?_)
      refine Halted.go (wpList_app8 _ rfl _ _ 28 rfl w1.heap.size (some ⟨w1.heap.size, 0, none⟩) 1 1 [p] rfl (Bo.grow (Bo.one w1 p _ rfl) ?_).bd (.slice a xs.length cap) rfl xs (HXA.out.2.src Try.underlying28 (Bs_one xs)) (by omega) (by simp; omega) ?_)
      · exact (Below.refl _ _).alloc (Nat.le_refl _) _
      intro a6 c6 w6 hd6 hk6 hn6 hb6 hz6
      have HO6 : Hid (Bo w1.heap.size w6 a6 (1 + xs.length) c6 ([p] ++ xs)) := Lib.hid (by
        by_cases h0 : 0 < xs.length
        · exact hb6 h0
        · have hx0 : xs = [] := List.eq_nil_of_length_eq_zero (by omega)
          subst hx0
          obtain ⟨rfl, rfl, rfl⟩ := hz6 rfl
          exact Bo.grow (Bo.one w1 p _ rfl) ((Below.refl _ _).alloc (Nat.le_refl _) _))
      have HK6 := Lib.hid (Keeps.mine_below HKA.out hk6 (by have := HK1.out.size; simp; omega) HK1.out.size)
      have HS6 : Hid (w1.heap.size + 2 ≤ w6.heap.size) := Lib.hid (by have := hk6.size; simp only [World.size_alloc] at this; omega)
      have HF6 := Lib.hid (hk6.blk HFB.out (by simp [mine]))
      have HN6 : Hid (∀ k, a6.map (·.block) = some k → k ≠ w1.heap.size + 1) := Lib.hid (fun k hk => by
        rcases hn6 k hk with rfl | ⟨h1, h2⟩
        · simp at hk; omega
        · simp only [World.size_alloc] at h1; omega)
      clear hd6 hk6 hn6 hb6 hz6 HXA HFB HKA
      obtain ⟨m, hm, hm60⟩ : ∃ m : Nat, (z.toNat : Int) % 60 = (m : Int) ∧ m < 60 := ⟨z.toNat % 60, by omega, by omega⟩
      go_wp2_with (at_builtin; refine halt ?_)
      simp only [hm]
      refine Halted.go (wpList_app00 _ rfl _ _ rfl w1.heap.size a6 (1 + xs.length) c6 ([p] ++ xs) rfl HO6.out m rfl (by omega) (by have := HS6.out; omega) ?_)
      intro a7 c7 w7 ho7 hk7 hn7
      have HO7 := Lib.hid ho7
      have HF7 := Lib.hid (hk7.blk HF6.out (fun h => HN6.out _ h.2 rfl))
      have HK7 := Lib.hid (Keeps.mine_below HK6.out hk7 (by have := HK1.out.size; have := HS6.out; omega) HK1.out.size)
      have HS7 : Hid (w1.heap.size + 2 ≤ w7.heap.size) := Lib.hid (by have := hk7.size; have := HS6.out; omega)
      have HN7 : Hid (∀ k, a7.map (·.block) = some k → k ≠ w1.heap.size + 1) := Lib.hid (fun k hk => by
        rcases hn7 k hk with rfl | ⟨h1, h2⟩
        · exact HN6.out k hk
        · have := HS6.out; omega)
      have HFS := Lib.hid (HF7.out.set 3 (.slice a7 (1 + xs.length + m) c7))
      have hkS := (Keeps.refl (fun k => k = w1.heap.size + 1) w7).put 3 (.slice a7 (1 + xs.length + m) c7)
      have HYS := Lib.hid (ho7.by.keep hkS (fun bb hb e => HN7.out bb hb e))
      have HKS := Lib.hid (Keeps.below HK7.out hkS HK7.out.size (fun k hk => by have := HK1.out.size; omega))
      clear ho7 hk7 hn7
      have f3 : w7.cell? ⟨w1.heap.size + 1, 3, none⟩ = some (.slice none 0 0) := HF7.out.cell 3
      have y3 : w7.frozen? ⟨w1.heap.size + 1, 3, none⟩ = false := HF7.out.free 3
      have HS8 : Hid (w1.heap.size + 2 ≤ (w7.setCell ⟨w1.heap.size + 1, 3, none⟩ (.slice a7 (1 + xs.length + m) c7)).heap.size) := Lib.hid (by have := HS7.out; have := hkS.size; omega)
      clear hkS
      generalize hws : w7.setCell ⟨w1.heap.size + 1, 3, none⟩ (.slice a7 (1 + xs.length + m) c7) = w8 at HFS HYS HKS HS8
      have s0 : w8.cell? ⟨w1.heap.size + 1, 0, none⟩ = some (.int .u8 0) := HFS.out.cell 0
      have s1 : w8.cell? ⟨w1.heap.size + 1, 1, none⟩ = some (.int .u8 8) := HFS.out.cell 1
      have s2 : w8.cell? ⟨w1.heap.size + 1, 2, none⟩ = some (.int .u32 1) := HFS.out.cell 2
      have s3 : w8.cell? ⟨w1.heap.size + 1, 3, none⟩ = some (.slice a7 (1 + xs.length + m) c7) := HFS.out.cell 3
      go_wp2_with fail
      have ha : aheadI 0 8 = ((1 : Nat) : Int) := by decide +kernel
      have hpp : padP 0 8 = true := by decide +kernel
      have hsz : sizeP 0 8 (1 + xs.length + m) = true := by simp [sizeP, ha]; omega
      have hpi : padI 0 8 ([p] ++ xs ++ List.replicate m 0) = ((p.toNat : Nat) : Int) := by simp [padI, hpp]
      have hpl : p.toNat ≤ 255 := by have := p.toNat_lt; omega
      obtain ⟨bb, oo, rfl, hbl, _⟩ := HYS.out.get (by omega)
      have HYC : Hid (By w8 (some ⟨bb, oo, none⟩) (1 + xs.length + m) c7 (p :: (xs ++ List.replicate m 0))) := Lib.hid (by simpa using HYS.out)
      by_cases hpd : xs.length + m < p.toNat
      · refine (read_order 0 8 1 _ _ c7 _ 1 p.toNat w8 HYS.out (by omega) (by decide +kernel) hsz ha hpi (by omega) hpl (by omega) (fun _ => by omega)).mono ?_
        rintro e w9 ⟨rfl, hk9⟩
        have HF9 := Lib.hid ((Below.keeps hk9).blk HFS.out (by have := HS8.out; omega))
        have HK9 := Lib.hid (HKS.out.trans (hk9.mono HKS.out.size))
        have HY9 := Lib.hid (HYC.out.grow hk9)
        have HS9 : Hid (w1.heap.size + 2 ≤ w9.heap.size) := Lib.hid (by have := hk9.size; have := HS8.out; omega)
        clear hk9 ha hpp hsz hpi s0 s1 s2 s3 f3 y3
        unfold Py0 PyV
        have HFA := Lib.hid (HF9.out.alloc (.cells #[.slice none 0 0, .slice none 0 0, .int .u32 0, .int .u32 0, .int .u32 0] 33 (0, 0)))
        have HYA := Lib.hid (HY9.out.alloc (.cells #[.slice none 0 0, .slice none 0 0, .int .u32 0, .int .u32 0, .int .u32 0] 33 (0, 0)))
        have HKA := Lib.hid (HK9.out.alloc HK9.out.size (.cells #[.slice none 0 0, .slice none 0 0, .int .u32 0, .int .u32 0, .int .u32 0] 33 (0, 0)))
        obtain ⟨⟨s0, s1, s2, s3⟩, _⟩ := fr_cells HFA.out
        go_wp2_with fail
        refine (refpay_any 0 8 bb oo _ c7 p _ 1 _ HYA.out (by omega) (by simp) (by omega)).mono ?_
        rintro e w10 ⟨hk10, hlr⟩
        obtain ⟨_, rfl⟩ := hlr.resolve_right (fun h => by have := h.1; omega)
        clear hlr
        have HKB := Lib.hid ((HKA.out.trans (hk10.mono HKA.out.size)).alloc (by have := HKA.out.size; have := hk10.size; omega) (.cells #[.slice none 0 0, .slice none 0 0, .int .u32 0, .int .u32 0, .int .u32 0] 33 (0, 0)))
        clear hk10
        unfold Py0 PyV
        go_wp2_with (at_builtin; refine halt ?_)
        refine Halted.go (wpList_copy8 _ rfl _ rfl a xs.length cap xs rfl (HX.out.grow HKB.out) (by omega) ?_)
        intro a11 c11 w11 ho11 hk11
        have HK11 := Lib.hid (HKB.out.trans (hk11.mono HKB.out.size))
        have HO11 := Lib.hid ho11
        have HS11 := Lib.hid hk11.size
        clear ho11 hk11
        go_wp2_with (at_builtin; refine halt ?_)
        simp only [hm]
        refine Halted.go (wpList_app00 _ rfl _ _ rfl _ a11 xs.length c11 xs rfl HO11.out m rfl (by omega) HS11.out ?_)
        intro a12 c12 w12 ho12 hk12 hn12
        have HK12 := Lib.hid (Keeps.mine_below HK11.out hk12 (Nat.le_trans HKB.out.size HS11.out) HKB.out.size)
        clear ho12 hk12 hn12
        have hgt : ((xs.length + m : Nat) : Int) < ((p.toNat : Nat) : Int) := by omega
        have hwp : wrap64 (p.toNat : Int) = (p.toNat : Int) := by unfold wrap64; omega
        go_wp2_with fail
        all_goals go_returns
        all_goals (first | exact ⟨rfl, HK12.out⟩ | trace_state)
      · refine (read_told 0 8 1 _ _ c7 _ 1 p.toNat (1 + xs.length + m - p.toNat) w8 HYS.out (by omega) (.inl rfl) (by decide +kernel) hsz ha hpi (by omega) (by omega) (fun _ => by omega)).mono ?_
        rintro e w9 ⟨a9, c9, rfl, hy9, hb9, hk9⟩
        have HF9 := Lib.hid ((Below.keeps hk9).blk HFS.out (by have := HS8.out; omega))
        have HK9 := Lib.hid (HKS.out.trans (hk9.mono HKS.out.size))
        have HY9 := Lib.hid (HYC.out.grow hk9)
        have HS9 : Hid (w1.heap.size + 2 ≤ w9.heap.size) := Lib.hid (by have := hk9.size; have := HS8.out; omega)
        have HD9 := Lib.hid hy9
        clear hk9 ha hpp hsz hpi s0 s1 s2 s3 f3 y3 hy9 hb9
        have hN : 1 + xs.length + m - p.toNat - 1 = xs.length + m - p.toNat := by omega
        rw [hN] at HD9 ⊢
        generalize hNN : xs.length + m - p.toNat = N at HD9 ⊢
        have HNN := Lib.hid hNN
        clear hNN hN
        unfold PyV
        have HFA := Lib.hid (HF9.out.alloc (.cells #[.slice a9 N c9, .slice none 0 0, .int .u32 0, .int .u32 0, .int .u32 0] 33 (0, 0)))
        have HYA := Lib.hid (HY9.out.alloc (.cells #[.slice a9 N c9, .slice none 0 0, .int .u32 0, .int .u32 0, .int .u32 0] 33 (0, 0)))
        have HKA := Lib.hid (HK9.out.alloc HK9.out.size (.cells #[.slice a9 N c9, .slice none 0 0, .int .u32 0, .int .u32 0, .int .u32 0] 33 (0, 0)))
        have HDA := Lib.hid (HD9.out.alloc (.cells #[.slice a9 N c9, .slice none 0 0, .int .u32 0, .int .u32 0, .int .u32 0] 33 (0, 0)))
        have HPA := Lib.hid (Blk.new w9 #[.slice a9 N c9, .slice none 0 0, .int .u32 0, .int .u32 0, .int .u32 0] 33)
        obtain ⟨⟨s0, s1, s2, s3⟩, _⟩ := fr_cells HFA.out
        go_wp2_with fail
        refine (refpay_any 0 8 bb oo _ c7 p _ 1 _ HYA.out (by omega) (by simp) (by omega)).mono ?_
        rintro e w10 ⟨hk10, hlr⟩
        obtain ⟨_, a10, c10, rfl, hy10, hb10⟩ := hlr.resolve_left (fun h => by have := h.1; omega)
        have hN : 1 + xs.length + m - p.toNat - 1 = N := by have := HNN.out; omega
        rw [hN] at hy10 ⊢
        have HD10 := Lib.hid (HDA.out.grow hk10)
        have HP10 := Lib.hid ((Below.keeps hk10).blk HPA.out (by simp))
        have HQ10 := Lib.hid hy10
        have HKB := Lib.hid (HKA.out.trans (hk10.mono HKA.out.size))
        clear hk10 hlr hy10 hb10 hN s0 s1 s2 s3
        unfold PyV
        have HKC := Lib.hid (HKB.out.alloc HKB.out.size (.cells #[.slice a10 N c10, .slice none 0 0, .int .u32 0, .int .u32 0, .int .u32 0] 33 (0, 0)))
        have HPC := Lib.hid (HP10.out.alloc (.cells #[.slice a10 N c10, .slice none 0 0, .int .u32 0, .int .u32 0, .int .u32 0] 33 (0, 0)))
        have HDC := Lib.hid (HD10.out.alloc (.cells #[.slice a10 N c10, .slice none 0 0, .int .u32 0, .int .u32 0, .int .u32 0] 33 (0, 0)))
        have HQC := Lib.hid (HQ10.out.alloc (.cells #[.slice a10 N c10, .slice none 0 0, .int .u32 0, .int .u32 0, .int .u32 0] 33 (0, 0)))
        have HRC := Lib.hid (Blk.new w10 #[.slice a10 N c10, .slice none 0 0, .int .u32 0, .int .u32 0, .int .u32 0] 33)
        have HLE : Hid (w9.heap.size < w10.heap.size) := Lib.hid HP10.out.lt
        go_wp2_with (at_builtin; refine halt ?_)
        generalize w10.alloc (.cells #[.slice a10 N c10, .slice none 0 0, .int .u32 0, .int .u32 0, .int .u32 0] 33 (0, 0)) = wC at *
        refine Halted.go (wpList_copy8 _ rfl _ rfl a xs.length cap xs rfl (HX.out.grow HKC.out) (by omega) ?_)
        intro a11 c11 w11 ho11 hk11
        have HK11 := Lib.hid (HKC.out.trans (hk11.mono HKC.out.size))
        have HKL := Lib.hid hk11
        have HO11 := Lib.hid ho11
        have HS11 := Lib.hid hk11.size
        clear ho11 hk11
        go_wp2_with (at_builtin; refine halt ?_)
        simp only [hm]
        refine Halted.go (wpList_app00 _ rfl _ _ rfl _ a11 xs.length c11 xs rfl HO11.out m rfl (by omega) HS11.out ?_)
        intro a12 c12 w12 ho12 hk12 hn12
        have HK12 := Lib.hid (Keeps.mine_below HKL.out hk12 HS11.out (Nat.le_refl _))
        have HP12 := Lib.hid ((Below.keeps HK12.out).blk HPC.out (by have := HPC.out.lt; omega))
        have HR12 := Lib.hid ((Below.keeps HK12.out).blk HRC.out (by have := HRC.out.lt; omega))
        have HD12 : Hid (By w12 a9 N c9 ((xs ++ List.replicate m 0).take N)) := Lib.hid (by simpa using HDC.out.grow HK12.out)
        have HQ12 : Hid (By w12 a10 N c10 ((xs ++ List.replicate m 0).take N)) := Lib.hid (by simpa using HQC.out.grow HK12.out)
        have HA12 := Lib.hid ho12.by
        have HKT := Lib.hid (HKC.out.trans (HK12.out.mono HKC.out.size))
        clear ho12 hk12 hn12
        have hgt : decide (((xs.length + m : Nat) : Int) < ((p.toNat : Nat) : Int)) = false := by simp; omega
        have hwp : wrap64 (p.toNat : Int) = (p.toNat : Int) := by unfold wrap64; omega
        obtain ⟨⟨p0, p1, p2, p3, p4⟩, _⟩ := pay_cells HP12.out
        obtain ⟨⟨q0, q1, q2, q3, q4⟩, _⟩ := pay_cells HR12.out
        have hcut : N ≤ xs.length + m := by have := HNN.out; omega
        have HL12 := Lib.hid (HA12.out.pre hcut)
        have hwN : IntKind.i64.wrap (((xs.length + m : Nat) : Int) - ((p.toNat : Nat) : Int)) = (N : Int) := by have := HNN.out; rw [IntKind.wrap_i64]; omega
        have hwN2 : wrap64 (((xs.length + m : Nat) : Int) - ((p.toNat : Nat) : Int)) = (N : Int) := by have := HNN.out; unfold wrap64; omega
        have hc12 : (N : Int) ≤ (c12 : Int) := by have := HA12.out.2.le; omega
        have hN0 : (0 : Int) ≤ (N : Int) := by omega
        go_wp2_with fail
        have hwpI : IntKind.i64.wrap ((p.toNat : Nat) : Int) = ((p.toNat : Nat) : Int) := by rw [IntKind.wrap_i64]; omega
        have hwN3 : IntKind.i64.wrap ((xs.length : Int) + (m : Int) - ((p.toNat : Nat) : Int)) = (N : Int) := by have := HNN.out; rw [IntKind.wrap_i64]; omega
        go_region_held3 (fun w' => (convert 28 9 (.slice a9 N c9)).run Try.prog w' = .ok (.string ⟨((xs ++ List.replicate m 0).take N).toArray⟩) w' ∧ (convert 28 9 (.slice a12 N c12)).run Try.prog w' = .ok (.string ⟨((xs ++ List.replicate m 0).take N).toArray⟩) w' ∧ w'.cell? ⟨w9.heap.size, 0, none⟩ = some (.slice a9 N c9) ∧ w'.cell? ⟨w9.heap.size, 1, none⟩ = some (.slice none 0 0) ∧ w'.cell? ⟨w9.heap.size, 2, none⟩ = some (.int .u32 0) ∧ w'.cell? ⟨w9.heap.size, 3, none⟩ = some (.int .u32 0) ∧ w'.cell? ⟨w9.heap.size, 4, none⟩ = some (.int .u32 0) ∧ w'.cell? ⟨w10.heap.size, 0, none⟩ = some (.slice a10 N c10) ∧ w'.cell? ⟨w10.heap.size, 1, none⟩ = some (.slice none 0 0) ∧ w'.cell? ⟨w10.heap.size, 2, none⟩ = some (.int .u32 0) ∧ w'.cell? ⟨w10.heap.size, 3, none⟩ = some (.int .u32 0) ∧ w'.cell? ⟨w10.heap.size, 4, none⟩ = some (.int .u32 0))
          (first | exact ⟨By.cv (By.drew' HD12.out), By.cv (By.drew' HL12.out), p0, p1, p2, p3, p4, q0, q1, q2, q3, q4⟩ | exact ⟨By.cv HD13.out, By.cv HL13.out, z0, z1, z2, z3, z4, y0, y1, y2, y3, y4⟩)
          (first
          | (go_at_call 11
             go_must (
               refine (same_any a9 a10 N c9 c10 _ _ (By.drew' HD12.out) (By.drew' HQ12.out)).mono ?_
               rintro e w13 ⟨rfl, hk13⟩
               have HD13 := Lib.hid ((By.drew' HD12.out).grow hk13)
               have HL13 := Lib.hid ((By.drew' HL12.out).grow hk13)
               have HK13 := Lib.hid (HKT.out.drew.trans (hk13.mono HKT.out.size))
               have HP13 := Lib.hid ((Below.keeps hk13).blk HP12.out.drew (by have := HP12.out.lt; simpa using this))
               have HR13 := Lib.hid ((Below.keeps hk13).blk HR12.out.drew (by have := HR12.out.lt; simpa using this))
               obtain ⟨⟨z0, z1, z2, z3, z4⟩, _⟩ := pay_cells HP13.out
               obtain ⟨⟨y0, y1, y2, y3, y4⟩, _⟩ := pay_cells HR13.out
               clear hk13)))
        go_wp2_with fail
        go_returns
        exact ⟨by simp, HK13.out⟩
  · go_wp2_with fail
    go_returns
    exact ⟨rfl, HK1.out⟩

set_option maxRecDepth 8000 in
set_option maxHeartbeats 3200000 in
theorem pads_heads (w : World) (p z : UInt8) (a : Option Addr) (n cap : Nat) (xs : List UInt8) (hx : By w a n cap xs) :
    Calls Try.prog 5 #[.bool true, .bool false, .int .u8 (p.toNat : Int), .slice a n cap, .int .u8 (z.toNat : Int)] w fun e w' => e = .returned (.bool true) ∧ Below w.heap.size w w' := by
  obtain ⟨rfl, hv⟩ := hx
  have HX : Hid (By w a xs.length cap xs) := Lib.hid ⟨rfl, hv⟩
  clear hv
  have HK0 := Lib.hid (Below.refl w.heap.size w)
  go_enter Try.func5, Try.ntmps5
  go_wp2_with fail
  refine (known_any _).mono ?_
  rintro e w1 ⟨rfl, hk1⟩
  have HK1 := Lib.hid hk1
  have HX1 := Lib.hid (HX.out.grow hk1)
  clear hk1
  by_cases hn : xs.length ≤ 100
  ·
      have HKA := Lib.hid ((HK1.out.alloc HK1.out.size (.cells #[.int .u8 (p.toNat : Int)] 5 (0, 0))).alloc (by have := HK1.out.size; simp; omega) (.cells #[.int .u8 1, .int .u8 8, .int .u32 1, .slice none 0 0] 30 (0, 0)))
      have HFB := Lib.hid (Blk.new (w1.alloc (.cells #[.int .u8 (p.toNat : Int)] 5 (0, 0))) #[.int .u8 1, .int .u8 8, .int .u32 1, .slice none 0 0] 30)
      simp only [World.size_alloc] at HFB
      have HXA := Lib.hid ((HX1.out.alloc (.cells #[.int .u8 (p.toNat : Int)] 5 (0, 0))).alloc (.cells #[.int .u8 1, .int .u8 8, .int .u32 1, .slice none 0 0] 30 (0, 0)))
      go_wp2_with (at_builtin; refine halt ?_)
      refine Halted.go (wpList_app8 _ rfl _ _ 28 rfl w1.heap.size (some ⟨w1.heap.size, 0, none⟩) 1 1 [p] rfl (Bo.grow (Bo.one w1 p _ rfl) ?_).bd (.slice a xs.length cap) rfl xs (HXA.out.2.src Try.underlying28 (Bs_one xs)) (by omega) (by simp; omega) ?_)
      · exact (Below.refl _ _).alloc (Nat.le_refl _) _
      intro a6 c6 w6 hd6 hk6 hn6 hb6 hz6
      have HO6 : Hid (Bo w1.heap.size w6 a6 (1 + xs.length) c6 ([p] ++ xs)) := Lib.hid (by
        by_cases h0 : 0 < xs.length
        · exact hb6 h0
        · have hx0 : xs = [] := List.eq_nil_of_length_eq_zero (by omega)
          subst hx0
          obtain ⟨rfl, rfl, rfl⟩ := hz6 rfl
          exact Bo.grow (Bo.one w1 p _ rfl) ((Below.refl _ _).alloc (Nat.le_refl _) _))
      have HK6 := Lib.hid (Keeps.mine_below HKA.out hk6 (by have := HK1.out.size; simp; omega) HK1.out.size)
      have HS6 : Hid (w1.heap.size + 2 ≤ w6.heap.size) := Lib.hid (by have := hk6.size; simp only [World.size_alloc] at this; omega)
      have HF6 := Lib.hid (hk6.blk HFB.out (by simp [mine]))
      have HN6 : Hid (∀ k, a6.map (·.block) = some k → k ≠ w1.heap.size + 1) := Lib.hid (fun k hk => by
        rcases hn6 k hk with rfl | ⟨h1, h2⟩
        · simp at hk; omega
        · simp only [World.size_alloc] at h1; omega)
      clear hd6 hk6 hn6 hb6 hz6 HXA HFB HKA
      obtain ⟨m, hm, hm60⟩ : ∃ m : Nat, (z.toNat : Int) % 60 = (m : Int) ∧ m < 60 := ⟨z.toNat % 60, by omega, by omega⟩
      go_wp2_with (at_builtin; refine halt ?_)
      simp only [hm]
      refine Halted.go (wpList_app00 _ rfl _ _ rfl w1.heap.size a6 (1 + xs.length) c6 ([p] ++ xs) rfl HO6.out m rfl (by omega) (by have := HS6.out; omega) ?_)
      intro a7 c7 w7 ho7 hk7 hn7
      have HO7 := Lib.hid ho7
      have HF7 := Lib.hid (hk7.blk HF6.out (fun h => HN6.out _ h.2 rfl))
      have HK7 := Lib.hid (Keeps.mine_below HK6.out hk7 (by have := HK1.out.size; have := HS6.out; omega) HK1.out.size)
      have HS7 : Hid (w1.heap.size + 2 ≤ w7.heap.size) := Lib.hid (by have := hk7.size; have := HS6.out; omega)
      have HN7 : Hid (∀ k, a7.map (·.block) = some k → k ≠ w1.heap.size + 1) := Lib.hid (fun k hk => by
        rcases hn7 k hk with rfl | ⟨h1, h2⟩
        · exact HN6.out k hk
        · have := HS6.out; omega)
      have HFS := Lib.hid (HF7.out.set 3 (.slice a7 (1 + xs.length + m) c7))
      have hkS := (Keeps.refl (fun k => k = w1.heap.size + 1) w7).put 3 (.slice a7 (1 + xs.length + m) c7)
      have HYS := Lib.hid (ho7.by.keep hkS (fun bb hb e => HN7.out bb hb e))
      have HKS := Lib.hid (Keeps.below HK7.out hkS HK7.out.size (fun k hk => by have := HK1.out.size; omega))
      clear ho7 hk7 hn7
      have f3 : w7.cell? ⟨w1.heap.size + 1, 3, none⟩ = some (.slice none 0 0) := HF7.out.cell 3
      have y3 : w7.frozen? ⟨w1.heap.size + 1, 3, none⟩ = false := HF7.out.free 3
      have HS8 : Hid (w1.heap.size + 2 ≤ (w7.setCell ⟨w1.heap.size + 1, 3, none⟩ (.slice a7 (1 + xs.length + m) c7)).heap.size) := Lib.hid (by have := HS7.out; have := hkS.size; omega)
      clear hkS
      generalize hws : w7.setCell ⟨w1.heap.size + 1, 3, none⟩ (.slice a7 (1 + xs.length + m) c7) = w8 at HFS HYS HKS HS8
      have s0 : w8.cell? ⟨w1.heap.size + 1, 0, none⟩ = some (.int .u8 1) := HFS.out.cell 0
      have s1 : w8.cell? ⟨w1.heap.size + 1, 1, none⟩ = some (.int .u8 8) := HFS.out.cell 1
      have s2 : w8.cell? ⟨w1.heap.size + 1, 2, none⟩ = some (.int .u32 1) := HFS.out.cell 2
      have s3 : w8.cell? ⟨w1.heap.size + 1, 3, none⟩ = some (.slice a7 (1 + xs.length + m) c7) := HFS.out.cell 3
      go_wp2_with fail
      have ha : aheadI 1 8 = ((1 : Nat) : Int) := by decide +kernel
      have hpp : padP 1 8 = true := by decide +kernel
      have hsz : sizeP 1 8 (1 + xs.length + m) = true := by simp [sizeP, ha]; omega
      have hpi : padI 1 8 ([p] ++ xs ++ List.replicate m 0) = ((p.toNat : Nat) : Int) := by simp [padI, hpp]
      have hpl : p.toNat ≤ 255 := by have := p.toNat_lt; omega
      obtain ⟨bb, oo, rfl, hbl, _⟩ := HYS.out.get (by omega)
      have HYC : Hid (By w8 (some ⟨bb, oo, none⟩) (1 + xs.length + m) c7 (p :: (xs ++ List.replicate m 0))) := Lib.hid (by simpa using HYS.out)
      by_cases hpd : xs.length + m < p.toNat
      · refine (read_order 1 8 1 _ _ c7 _ 1 p.toNat w8 HYS.out (by omega) (by decide +kernel) hsz ha hpi (by omega) hpl (by omega) (fun _ => by omega)).mono ?_
        rintro e w9 ⟨rfl, hk9⟩
        have HF9 := Lib.hid ((Below.keeps hk9).blk HFS.out (by have := HS8.out; omega))
        have HK9 := Lib.hid (HKS.out.trans (hk9.mono HKS.out.size))
        have HY9 := Lib.hid (HYC.out.grow hk9)
        have HS9 : Hid (w1.heap.size + 2 ≤ w9.heap.size) := Lib.hid (by have := hk9.size; have := HS8.out; omega)
        clear hk9 ha hpp hsz hpi s0 s1 s2 s3 f3 y3
        unfold Py0 PyV
        have HFA := Lib.hid (HF9.out.alloc (.cells #[.slice none 0 0, .slice none 0 0, .int .u32 0, .int .u32 0, .int .u32 0] 33 (0, 0)))
        have HYA := Lib.hid (HY9.out.alloc (.cells #[.slice none 0 0, .slice none 0 0, .int .u32 0, .int .u32 0, .int .u32 0] 33 (0, 0)))
        have HKA := Lib.hid (HK9.out.alloc HK9.out.size (.cells #[.slice none 0 0, .slice none 0 0, .int .u32 0, .int .u32 0, .int .u32 0] 33 (0, 0)))
        obtain ⟨⟨s0, s1, s2, s3⟩, _⟩ := fr_cells HFA.out
        go_wp2_with fail
        refine (refpay_any 1 8 bb oo _ c7 p _ 1 _ HYA.out (by omega) (by simp) (by omega)).mono ?_
        rintro e w10 ⟨hk10, hlr⟩
        obtain ⟨_, rfl⟩ := hlr.resolve_right (fun h => by have := h.1; omega)
        clear hlr
        have HKB := Lib.hid ((HKA.out.trans (hk10.mono HKA.out.size)).alloc (by have := HKA.out.size; have := hk10.size; omega) (.cells #[.slice none 0 0, .slice none 0 0, .int .u32 0, .int .u32 0, .int .u32 0] 33 (0, 0)))
        clear hk10
        unfold Py0 PyV
        go_wp2_with (at_builtin; refine halt ?_)
        refine Halted.go (wpList_copy8 _ rfl _ rfl a xs.length cap xs rfl (HX.out.grow HKB.out) (by omega) ?_)
        intro a11 c11 w11 ho11 hk11
        have HK11 := Lib.hid (HKB.out.trans (hk11.mono HKB.out.size))
        have HO11 := Lib.hid ho11
        have HS11 := Lib.hid hk11.size
        clear ho11 hk11
        go_wp2_with (at_builtin; refine halt ?_)
        simp only [hm]
        refine Halted.go (wpList_app00 _ rfl _ _ rfl _ a11 xs.length c11 xs rfl HO11.out m rfl (by omega) HS11.out ?_)
        intro a12 c12 w12 ho12 hk12 hn12
        have HK12 := Lib.hid (Keeps.mine_below HK11.out hk12 (Nat.le_trans HKB.out.size HS11.out) HKB.out.size)
        clear ho12 hk12 hn12
        have hgt : ((xs.length + m : Nat) : Int) < ((p.toNat : Nat) : Int) := by omega
        have hwp : wrap64 (p.toNat : Int) = (p.toNat : Int) := by unfold wrap64; omega
        go_wp2_with fail
        all_goals go_returns
        all_goals (first | exact ⟨rfl, HK12.out⟩ | trace_state)
      · refine (read_told 1 8 1 _ _ c7 _ 1 p.toNat (1 + xs.length + m - p.toNat) w8 HYS.out (by omega) (.inr rfl) (by decide +kernel) hsz ha hpi (by omega) (by omega) (fun _ => by omega)).mono ?_
        rintro e w9 ⟨a9, c9, rfl, hy9, hb9, hk9⟩
        have HF9 := Lib.hid ((Below.keeps hk9).blk HFS.out (by have := HS8.out; omega))
        have HK9 := Lib.hid (HKS.out.trans (hk9.mono HKS.out.size))
        have HY9 := Lib.hid (HYC.out.grow hk9)
        have HS9 : Hid (w1.heap.size + 2 ≤ w9.heap.size) := Lib.hid (by have := hk9.size; have := HS8.out; omega)
        have HD9 := Lib.hid hy9
        clear hk9 ha hpp hsz hpi s0 s1 s2 s3 f3 y3 hy9 hb9
        have hN : 1 + xs.length + m - p.toNat - 1 = xs.length + m - p.toNat := by omega
        rw [hN] at HD9 ⊢
        generalize hNN : xs.length + m - p.toNat = N at HD9 ⊢
        have HNN := Lib.hid hNN
        clear hNN hN
        unfold PyV
        have HFA := Lib.hid (HF9.out.alloc (.cells #[.slice a9 N c9, .slice none 0 0, .int .u32 0, .int .u32 0, .int .u32 0] 33 (0, 0)))
        have HYA := Lib.hid (HY9.out.alloc (.cells #[.slice a9 N c9, .slice none 0 0, .int .u32 0, .int .u32 0, .int .u32 0] 33 (0, 0)))
        have HKA := Lib.hid (HK9.out.alloc HK9.out.size (.cells #[.slice a9 N c9, .slice none 0 0, .int .u32 0, .int .u32 0, .int .u32 0] 33 (0, 0)))
        have HDA := Lib.hid (HD9.out.alloc (.cells #[.slice a9 N c9, .slice none 0 0, .int .u32 0, .int .u32 0, .int .u32 0] 33 (0, 0)))
        have HPA := Lib.hid (Blk.new w9 #[.slice a9 N c9, .slice none 0 0, .int .u32 0, .int .u32 0, .int .u32 0] 33)
        obtain ⟨⟨s0, s1, s2, s3⟩, _⟩ := fr_cells HFA.out
        go_wp2_with fail
        refine (refpay_any 1 8 bb oo _ c7 p _ 1 _ HYA.out (by omega) (by simp) (by omega)).mono ?_
        rintro e w10 ⟨hk10, hlr⟩
        obtain ⟨_, a10, c10, rfl, hy10, hb10⟩ := hlr.resolve_left (fun h => by have := h.1; omega)
        have hN : 1 + xs.length + m - p.toNat - 1 = N := by have := HNN.out; omega
        rw [hN] at hy10 ⊢
        have HD10 := Lib.hid (HDA.out.grow hk10)
        have HP10 := Lib.hid ((Below.keeps hk10).blk HPA.out (by simp))
        have HQ10 := Lib.hid hy10
        have HKB := Lib.hid (HKA.out.trans (hk10.mono HKA.out.size))
        clear hk10 hlr hy10 hb10 hN s0 s1 s2 s3
        unfold PyV
        have HKC := Lib.hid (HKB.out.alloc HKB.out.size (.cells #[.slice a10 N c10, .slice none 0 0, .int .u32 0, .int .u32 0, .int .u32 0] 33 (0, 0)))
        have HPC := Lib.hid (HP10.out.alloc (.cells #[.slice a10 N c10, .slice none 0 0, .int .u32 0, .int .u32 0, .int .u32 0] 33 (0, 0)))
        have HDC := Lib.hid (HD10.out.alloc (.cells #[.slice a10 N c10, .slice none 0 0, .int .u32 0, .int .u32 0, .int .u32 0] 33 (0, 0)))
        have HQC := Lib.hid (HQ10.out.alloc (.cells #[.slice a10 N c10, .slice none 0 0, .int .u32 0, .int .u32 0, .int .u32 0] 33 (0, 0)))
        have HRC := Lib.hid (Blk.new w10 #[.slice a10 N c10, .slice none 0 0, .int .u32 0, .int .u32 0, .int .u32 0] 33)
        have HLE : Hid (w9.heap.size < w10.heap.size) := Lib.hid HP10.out.lt
        go_wp2_with (at_builtin; refine halt ?_)
        generalize w10.alloc (.cells #[.slice a10 N c10, .slice none 0 0, .int .u32 0, .int .u32 0, .int .u32 0] 33 (0, 0)) = wC at *
        refine Halted.go (wpList_copy8 _ rfl _ rfl a xs.length cap xs rfl (HX.out.grow HKC.out) (by omega) ?_)
        intro a11 c11 w11 ho11 hk11
        have HK11 := Lib.hid (HKC.out.trans (hk11.mono HKC.out.size))
        have HKL := Lib.hid hk11
        have HO11 := Lib.hid ho11
        have HS11 := Lib.hid hk11.size
        clear ho11 hk11
        go_wp2_with (at_builtin; refine halt ?_)
        simp only [hm]
        refine Halted.go (wpList_app00 _ rfl _ _ rfl _ a11 xs.length c11 xs rfl HO11.out m rfl (by omega) HS11.out ?_)
        intro a12 c12 w12 ho12 hk12 hn12
        have HK12 := Lib.hid (Keeps.mine_below HKL.out hk12 HS11.out (Nat.le_refl _))
        have HP12 := Lib.hid ((Below.keeps HK12.out).blk HPC.out (by have := HPC.out.lt; omega))
        have HR12 := Lib.hid ((Below.keeps HK12.out).blk HRC.out (by have := HRC.out.lt; omega))
        have HD12 : Hid (By w12 a9 N c9 ((xs ++ List.replicate m 0).take N)) := Lib.hid (by simpa using HDC.out.grow HK12.out)
        have HQ12 : Hid (By w12 a10 N c10 ((xs ++ List.replicate m 0).take N)) := Lib.hid (by simpa using HQC.out.grow HK12.out)
        have HA12 := Lib.hid ho12.by
        have HKT := Lib.hid (HKC.out.trans (HK12.out.mono HKC.out.size))
        clear ho12 hk12 hn12
        have hgt : decide (((xs.length + m : Nat) : Int) < ((p.toNat : Nat) : Int)) = false := by simp; omega
        have hwp : wrap64 (p.toNat : Int) = (p.toNat : Int) := by unfold wrap64; omega
        obtain ⟨⟨p0, p1, p2, p3, p4⟩, _⟩ := pay_cells HP12.out
        obtain ⟨⟨q0, q1, q2, q3, q4⟩, _⟩ := pay_cells HR12.out
        have hcut : N ≤ xs.length + m := by have := HNN.out; omega
        have HL12 := Lib.hid (HA12.out.pre hcut)
        have hwN : IntKind.i64.wrap (((xs.length + m : Nat) : Int) - ((p.toNat : Nat) : Int)) = (N : Int) := by have := HNN.out; rw [IntKind.wrap_i64]; omega
        have hwN2 : wrap64 (((xs.length + m : Nat) : Int) - ((p.toNat : Nat) : Int)) = (N : Int) := by have := HNN.out; unfold wrap64; omega
        have hc12 : (N : Int) ≤ (c12 : Int) := by have := HA12.out.2.le; omega
        have hN0 : (0 : Int) ≤ (N : Int) := by omega
        go_wp2_with fail
        have hwpI : IntKind.i64.wrap ((p.toNat : Nat) : Int) = ((p.toNat : Nat) : Int) := by rw [IntKind.wrap_i64]; omega
        have hwN3 : IntKind.i64.wrap ((xs.length : Int) + (m : Int) - ((p.toNat : Nat) : Int)) = (N : Int) := by have := HNN.out; rw [IntKind.wrap_i64]; omega
        go_region_held3 (fun w' => (convert 28 9 (.slice a9 N c9)).run Try.prog w' = .ok (.string ⟨((xs ++ List.replicate m 0).take N).toArray⟩) w' ∧ (convert 28 9 (.slice a12 N c12)).run Try.prog w' = .ok (.string ⟨((xs ++ List.replicate m 0).take N).toArray⟩) w' ∧ w'.cell? ⟨w9.heap.size, 0, none⟩ = some (.slice a9 N c9) ∧ w'.cell? ⟨w9.heap.size, 1, none⟩ = some (.slice none 0 0) ∧ w'.cell? ⟨w9.heap.size, 2, none⟩ = some (.int .u32 0) ∧ w'.cell? ⟨w9.heap.size, 3, none⟩ = some (.int .u32 0) ∧ w'.cell? ⟨w9.heap.size, 4, none⟩ = some (.int .u32 0) ∧ w'.cell? ⟨w10.heap.size, 0, none⟩ = some (.slice a10 N c10) ∧ w'.cell? ⟨w10.heap.size, 1, none⟩ = some (.slice none 0 0) ∧ w'.cell? ⟨w10.heap.size, 2, none⟩ = some (.int .u32 0) ∧ w'.cell? ⟨w10.heap.size, 3, none⟩ = some (.int .u32 0) ∧ w'.cell? ⟨w10.heap.size, 4, none⟩ = some (.int .u32 0))
          (first | exact ⟨By.cv (By.drew' HD12.out), By.cv (By.drew' HL12.out), p0, p1, p2, p3, p4, q0, q1, q2, q3, q4⟩ | exact ⟨By.cv HD13.out, By.cv HL13.out, z0, z1, z2, z3, z4, y0, y1, y2, y3, y4⟩)
          (first
          | (go_at_call 11
             go_must (
               refine (same_any a9 a10 N c9 c10 _ _ (By.drew' HD12.out) (By.drew' HQ12.out)).mono ?_
               rintro e w13 ⟨rfl, hk13⟩
               have HD13 := Lib.hid ((By.drew' HD12.out).grow hk13)
               have HL13 := Lib.hid ((By.drew' HL12.out).grow hk13)
               have HK13 := Lib.hid (HKT.out.drew.trans (hk13.mono HKT.out.size))
               have HP13 := Lib.hid ((Below.keeps hk13).blk HP12.out.drew (by have := HP12.out.lt; simpa using this))
               have HR13 := Lib.hid ((Below.keeps hk13).blk HR12.out.drew (by have := HR12.out.lt; simpa using this))
               obtain ⟨⟨z0, z1, z2, z3, z4⟩, _⟩ := pay_cells HP13.out
               obtain ⟨⟨y0, y1, y2, y3, y4⟩, _⟩ := pay_cells HR13.out
               clear hk13)))
        go_wp2_with fail
        go_returns
        exact ⟨by simp, HK13.out⟩
  · go_wp2_with fail
    go_returns
    exact ⟨rfl, HK1.out⟩

set_option maxRecDepth 8000 in
set_option maxHeartbeats 3200000 in
theorem pads_prio (w : World) (p z : UInt8) (a : Option Addr) (n cap : Nat) (xs : List UInt8) (hx : By w a n cap xs) :
    Calls Try.prog 5 #[.bool true, .bool true, .int .u8 (p.toNat : Int), .slice a n cap, .int .u8 (z.toNat : Int)] w fun e w' => e = .returned (.bool true) ∧ Below w.heap.size w w' := by
  obtain ⟨rfl, hv⟩ := hx
  have HX : Hid (By w a xs.length cap xs) := Lib.hid ⟨rfl, hv⟩
  clear hv
  have HK0 := Lib.hid (Below.refl w.heap.size w)
  go_enter Try.func5, Try.ntmps5
  go_wp2_with fail
  refine (known_any _).mono ?_
  rintro e w1 ⟨rfl, hk1⟩
  have HK1 := Lib.hid hk1
  have HX1 := Lib.hid (HX.out.grow hk1)
  clear hk1
  by_cases hn : xs.length ≤ 100
  ·
      have HKA := Lib.hid ((HK1.out.alloc HK1.out.size (.cells #[.int .u8 (p.toNat : Int)] 5 (0, 0))).alloc (by have := HK1.out.size; simp; omega) (.cells #[.int .u8 1, .int .u8 40, .int .u32 1, .slice none 0 0] 30 (0, 0)))
      have HFB := Lib.hid (Blk.new (w1.alloc (.cells #[.int .u8 (p.toNat : Int)] 5 (0, 0))) #[.int .u8 1, .int .u8 40, .int .u32 1, .slice none 0 0] 30)
      simp only [World.size_alloc] at HFB
      have hv := By.new ((w1.alloc (.cells #[.int .u8 (p.toNat : Int)] 5 (0, 0))).alloc (.cells #[.int .u8 1, .int .u8 40, .int .u32 1, .slice none 0 0] 30 (0, 0))) [1, 2, 3, 4, 5] #[.int .u8 1, .int .u8 2, .int .u8 3, .int .u8 4, .int .u8 5] 5 (by simp) rfl
      simp only [World.size_alloc] at hv
      have HV := Lib.hid hv
      clear hv
      have hbits : bits .or .u8 8 32 = 40 := by decide +kernel
      go_wp2_with (at_builtin; refine halt ?_)
      clear hbits
      refine Halted.go (wpList_app8 _ rfl _ _ 28 rfl w1.heap.size (some ⟨w1.heap.size, 0, none⟩) 1 1 [p] rfl (Bo.grow (Bo.one w1 p _ rfl) ?_).bd (.slice (some ⟨w1.heap.size + 1 + 1, 0, none⟩) 5 5) rfl [1, 2, 3, 4, 5] (HV.out.2.src Try.underlying28 (Bs_one _)) (by simp) (by simp; omega) ?_)
      · exact ((Below.refl _ _).alloc (Nat.le_refl _) _).alloc (by simp) _
      intro a5 c5 w5 hd5 hk5 hn5 hb5 hz5
      have HO5 := Lib.hid (hb5 (by simp))
      have HK5 := Lib.hid (Keeps.mine_below (HKA.out.alloc HKA.out.size (.cells #[.int .u8 1, .int .u8 2, .int .u8 3, .int .u8 4, .int .u8 5] 5 (0, 0))) hk5 (by have := HK1.out.size; simp; omega) HK1.out.size)
      have HS5 : Hid (w1.heap.size + 2 ≤ w5.heap.size) := Lib.hid (by have := hk5.size; simp only [World.size_alloc] at this; omega)
      have HF5 := Lib.hid (hk5.blk (HFB.out.alloc (.cells #[.int .u8 1, .int .u8 2, .int .u8 3, .int .u8 4, .int .u8 5] 5 (0, 0))) (by simp [mine]))
      have HN5 : Hid (∀ k, a5.map (·.block) = some k → k ≠ w1.heap.size + 1) := Lib.hid (fun k hk => by
        rcases hn5 k hk with rfl | ⟨h1, h2⟩
        · simp at hk; omega
        · simp only [World.size_alloc] at h1; omega)
      have HX5 := Lib.hid (HX.out.grow HK5.out)
      clear hd5 hk5 hn5 hb5 hz5 HFB HKA
      go_wp2_with (at_builtin; refine halt ?_)
      refine Halted.go (wpList_app8 _ rfl _ _ 28 rfl w1.heap.size a5 _ c5 _ rfl HO5.out.bd (.slice a xs.length cap) rfl xs (HX5.out.2.src Try.underlying28 (Bs_one xs)) (by first | omega | (simp; omega)) (by have := HS5.out; omega) ?_)
      intro a6 c6 w6 hd6 hk6 hn6 hb6 hz6
      have HO6 : Hid (Bo w1.heap.size w6 a6 (6 + xs.length) c6 (([p] ++ [1, 2, 3, 4, 5]) ++ xs)) := Lib.hid (by
        by_cases h0 : 0 < xs.length
        · exact hb6 h0
        · have hx0 : xs = [] := List.eq_nil_of_length_eq_zero (by omega)
          subst hx0
          obtain ⟨rfl, rfl, rfl⟩ := hz6 rfl
          simpa using HO5.out)
      have HK6 := Lib.hid (Keeps.mine_below HK5.out hk6 (by have := HK1.out.size; have := HS5.out; omega) HK1.out.size)
      have HS6 : Hid (w1.heap.size + 2 ≤ w6.heap.size) := Lib.hid (by have := hk6.size; have := HS5.out; omega)
      have HF6 := Lib.hid (hk6.blk HF5.out (fun h => HN5.out _ h.2 rfl))
      have HN6 : Hid (∀ k, a6.map (·.block) = some k → k ≠ w1.heap.size + 1) := Lib.hid (fun k hk => by
        rcases hn6 k hk with rfl | ⟨h1, h2⟩
        · exact HN5.out k hk
        · have := HS5.out; omega)
      clear hd6 hk6 hn6 hb6 hz6
      obtain ⟨m, hm, hm60⟩ : ∃ m : Nat, (z.toNat : Int) % 60 = (m : Int) ∧ m < 60 := ⟨z.toNat % 60, by omega, by omega⟩
      go_wp2_with (at_builtin; refine halt ?_)
      simp only [hm]
      refine Halted.go (wpList_app00 _ rfl _ _ rfl w1.heap.size a6 (6 + xs.length) c6 (([p] ++ [1, 2, 3, 4, 5]) ++ xs) rfl HO6.out m rfl (by omega) (by have := HS6.out; omega) ?_)
      intro a7 c7 w7 ho7 hk7 hn7
      have HO7 := Lib.hid ho7
      have HF7 := Lib.hid (hk7.blk HF6.out (fun h => HN6.out _ h.2 rfl))
      have HK7 := Lib.hid (Keeps.mine_below HK6.out hk7 (by have := HK1.out.size; have := HS6.out; omega) HK1.out.size)
      have HS7 : Hid (w1.heap.size + 2 ≤ w7.heap.size) := Lib.hid (by have := hk7.size; have := HS6.out; omega)
      have HN7 : Hid (∀ k, a7.map (·.block) = some k → k ≠ w1.heap.size + 1) := Lib.hid (fun k hk => by
        rcases hn7 k hk with rfl | ⟨h1, h2⟩
        · exact HN6.out k hk
        · have := HS6.out; omega)
      have HFS := Lib.hid (HF7.out.set 3 (.slice a7 (6 + xs.length + m) c7))
      have hkS := (Keeps.refl (fun k => k = w1.heap.size + 1) w7).put 3 (.slice a7 (6 + xs.length + m) c7)
      have HYS := Lib.hid (ho7.by.keep hkS (fun bb hb e => HN7.out bb hb e))
      have HKS := Lib.hid (Keeps.below HK7.out hkS HK7.out.size (fun k hk => by have := HK1.out.size; omega))
      clear ho7 hk7 hn7
      have f3 : w7.cell? ⟨w1.heap.size + 1, 3, none⟩ = some (.slice none 0 0) := HF7.out.cell 3
      have y3 : w7.frozen? ⟨w1.heap.size + 1, 3, none⟩ = false := HF7.out.free 3
      have HS8 : Hid (w1.heap.size + 2 ≤ (w7.setCell ⟨w1.heap.size + 1, 3, none⟩ (.slice a7 (6 + xs.length + m) c7)).heap.size) := Lib.hid (by have := HS7.out; have := hkS.size; omega)
      clear hkS
      generalize hws : w7.setCell ⟨w1.heap.size + 1, 3, none⟩ (.slice a7 (6 + xs.length + m) c7) = w8 at HFS HYS HKS HS8
      have s0 : w8.cell? ⟨w1.heap.size + 1, 0, none⟩ = some (.int .u8 1) := HFS.out.cell 0
      have s1 : w8.cell? ⟨w1.heap.size + 1, 1, none⟩ = some (.int .u8 40) := HFS.out.cell 1
      have s2 : w8.cell? ⟨w1.heap.size + 1, 2, none⟩ = some (.int .u32 1) := HFS.out.cell 2
      have s3 : w8.cell? ⟨w1.heap.size + 1, 3, none⟩ = some (.slice a7 (6 + xs.length + m) c7) := HFS.out.cell 3
      go_wp2_with fail
      have ha : aheadI 1 40 = ((6 : Nat) : Int) := by decide +kernel
      have hpp : padP 1 40 = true := by decide +kernel
      have hsz : sizeP 1 40 (6 + xs.length + m) = true := by simp [sizeP, ha]; omega
      have hpi : padI 1 40 (([p] ++ [1, 2, 3, 4, 5]) ++ xs ++ List.replicate m 0) = ((p.toNat : Nat) : Int) := by simp [padI, hpp]
      have hpl : p.toNat ≤ 255 := by have := p.toNat_lt; omega
      obtain ⟨bb, oo, rfl, hbl, _⟩ := HYS.out.get (by omega)
      have HYC : Hid (By w8 (some ⟨bb, oo, none⟩) (6 + xs.length + m) c7 (p :: ([1, 2, 3, 4, 5] ++ xs ++ List.replicate m 0))) := Lib.hid (by simpa using HYS.out)
      by_cases hpd : xs.length + m < p.toNat
      · refine (read_order 1 40 1 _ _ c7 _ 6 p.toNat w8 HYS.out (by omega) (by decide +kernel) hsz ha hpi (by omega) hpl (by omega) (fun _ => by omega)).mono ?_
        rintro e w9 ⟨rfl, hk9⟩
        have HF9 := Lib.hid ((Below.keeps hk9).blk HFS.out (by have := HS8.out; omega))
        have HK9 := Lib.hid (HKS.out.trans (hk9.mono HKS.out.size))
        have HY9 := Lib.hid (HYC.out.grow hk9)
        have HS9 : Hid (w1.heap.size + 2 ≤ w9.heap.size) := Lib.hid (by have := hk9.size; have := HS8.out; omega)
        clear hk9 ha hpp hsz hpi s0 s1 s2 s3 f3 y3
        unfold Py0 PyV
        have HFA := Lib.hid (HF9.out.alloc (.cells #[.slice none 0 0, .slice none 0 0, .int .u32 0, .int .u32 0, .int .u32 0] 33 (0, 0)))
        have HYA := Lib.hid (HY9.out.alloc (.cells #[.slice none 0 0, .slice none 0 0, .int .u32 0, .int .u32 0, .int .u32 0] 33 (0, 0)))
        have HKA := Lib.hid (HK9.out.alloc HK9.out.size (.cells #[.slice none 0 0, .slice none 0 0, .int .u32 0, .int .u32 0, .int .u32 0] 33 (0, 0)))
        obtain ⟨⟨s0, s1, s2, s3⟩, _⟩ := fr_cells HFA.out
        go_wp2_with fail
        refine (refpay_any 1 40 bb oo _ c7 p _ 6 _ HYA.out (by omega) (by simp) (by omega)).mono ?_
        rintro e w10 ⟨hk10, hlr⟩
        obtain ⟨_, rfl⟩ := hlr.resolve_right (fun h => by have := h.1; omega)
        clear hlr
        have HKB := Lib.hid ((HKA.out.trans (hk10.mono HKA.out.size)).alloc (by have := HKA.out.size; have := hk10.size; omega) (.cells #[.slice none 0 0, .slice none 0 0, .int .u32 0, .int .u32 0, .int .u32 0] 33 (0, 0)))
        clear hk10
        unfold Py0 PyV
        go_wp2_with (at_builtin; refine halt ?_)
        refine Halted.go (wpList_copy8 _ rfl _ rfl a xs.length cap xs rfl (HX.out.grow HKB.out) (by omega) ?_)
        intro a11 c11 w11 ho11 hk11
        have HK11 := Lib.hid (HKB.out.trans (hk11.mono HKB.out.size))
        have HO11 := Lib.hid ho11
        have HS11 := Lib.hid hk11.size
        clear ho11 hk11
        go_wp2_with (at_builtin; refine halt ?_)
        simp only [hm]
        refine Halted.go (wpList_app00 _ rfl _ _ rfl _ a11 xs.length c11 xs rfl HO11.out m rfl (by omega) HS11.out ?_)
        intro a12 c12 w12 ho12 hk12 hn12
        have HK12 := Lib.hid (Keeps.mine_below HK11.out hk12 (Nat.le_trans HKB.out.size HS11.out) HKB.out.size)
        clear ho12 hk12 hn12
        have hgt : ((xs.length + m : Nat) : Int) < ((p.toNat : Nat) : Int) := by omega
        have hwp : wrap64 (p.toNat : Int) = (p.toNat : Int) := by unfold wrap64; omega
        go_wp2_with fail
        all_goals go_returns
        all_goals (first | exact ⟨rfl, HK12.out⟩ | trace_state)
      · refine (read_told 1 40 1 _ _ c7 _ 6 p.toNat (6 + xs.length + m - p.toNat) w8 HYS.out (by omega) (.inr rfl) (by decide +kernel) hsz ha hpi (by omega) (by omega) (fun _ => by omega)).mono ?_
        rintro e w9 ⟨a9, c9, rfl, hy9, hb9, hk9⟩
        have HF9 := Lib.hid ((Below.keeps hk9).blk HFS.out (by have := HS8.out; omega))
        have HK9 := Lib.hid (HKS.out.trans (hk9.mono HKS.out.size))
        have HY9 := Lib.hid (HYC.out.grow hk9)
        have HS9 : Hid (w1.heap.size + 2 ≤ w9.heap.size) := Lib.hid (by have := hk9.size; have := HS8.out; omega)
        have HD9 := Lib.hid hy9
        clear hk9 ha hpp hsz hpi s0 s1 s2 s3 f3 y3 hy9 hb9
        have hN : 6 + xs.length + m - p.toNat - 6 = xs.length + m - p.toNat := by omega
        rw [hN] at HD9 ⊢
        generalize hNN : xs.length + m - p.toNat = N at HD9 ⊢
        have HNN := Lib.hid hNN
        clear hNN hN
        unfold PyV
        have HFA := Lib.hid (HF9.out.alloc (.cells #[.slice a9 N c9, .slice none 0 0, .int .u32 0, .int .u32 0, .int .u32 0] 33 (0, 0)))
        have HYA := Lib.hid (HY9.out.alloc (.cells #[.slice a9 N c9, .slice none 0 0, .int .u32 0, .int .u32 0, .int .u32 0] 33 (0, 0)))
        have HKA := Lib.hid (HK9.out.alloc HK9.out.size (.cells #[.slice a9 N c9, .slice none 0 0, .int .u32 0, .int .u32 0, .int .u32 0] 33 (0, 0)))
        have HDA := Lib.hid (HD9.out.alloc (.cells #[.slice a9 N c9, .slice none 0 0, .int .u32 0, .int .u32 0, .int .u32 0] 33 (0, 0)))
        have HPA := Lib.hid (Blk.new w9 #[.slice a9 N c9, .slice none 0 0, .int .u32 0, .int .u32 0, .int .u32 0] 33)
        obtain ⟨⟨s0, s1, s2, s3⟩, _⟩ := fr_cells HFA.out
        go_wp2_with fail
        refine (refpay_any 1 40 bb oo _ c7 p _ 6 _ HYA.out (by omega) (by simp) (by omega)).mono ?_
        rintro e w10 ⟨hk10, hlr⟩
        obtain ⟨_, a10, c10, rfl, hy10, hb10⟩ := hlr.resolve_left (fun h => by have := h.1; omega)
        have hN : 6 + xs.length + m - p.toNat - 6 = N := by have := HNN.out; omega
        rw [hN] at hy10 ⊢
        have HD10 := Lib.hid (HDA.out.grow hk10)
        have HP10 := Lib.hid ((Below.keeps hk10).blk HPA.out (by simp))
        have HQ10 := Lib.hid hy10
        have HKB := Lib.hid (HKA.out.trans (hk10.mono HKA.out.size))
        clear hk10 hlr hy10 hb10 hN s0 s1 s2 s3
        unfold PyV
        have HKC := Lib.hid (HKB.out.alloc HKB.out.size (.cells #[.slice a10 N c10, .slice none 0 0, .int .u32 0, .int .u32 0, .int .u32 0] 33 (0, 0)))
        have HPC := Lib.hid (HP10.out.alloc (.cells #[.slice a10 N c10, .slice none 0 0, .int .u32 0, .int .u32 0, .int .u32 0] 33 (0, 0)))
        have HDC := Lib.hid (HD10.out.alloc (.cells #[.slice a10 N c10, .slice none 0 0, .int .u32 0, .int .u32 0, .int .u32 0] 33 (0, 0)))
        have HQC := Lib.hid (HQ10.out.alloc (.cells #[.slice a10 N c10, .slice none 0 0, .int .u32 0, .int .u32 0, .int .u32 0] 33 (0, 0)))
        have HRC := Lib.hid (Blk.new w10 #[.slice a10 N c10, .slice none 0 0, .int .u32 0, .int .u32 0, .int .u32 0] 33)
        have HLE : Hid (w9.heap.size < w10.heap.size) := Lib.hid HP10.out.lt
        go_wp2_with (at_builtin; refine halt ?_)
        generalize w10.alloc (.cells #[.slice a10 N c10, .slice none 0 0, .int .u32 0, .int .u32 0, .int .u32 0] 33 (0, 0)) = wC at *
        refine Halted.go (wpList_copy8 _ rfl _ rfl a xs.length cap xs rfl (HX.out.grow HKC.out) (by omega) ?_)
        intro a11 c11 w11 ho11 hk11
        have HK11 := Lib.hid (HKC.out.trans (hk11.mono HKC.out.size))
        have HKL := Lib.hid hk11
        have HO11 := Lib.hid ho11
        have HS11 := Lib.hid hk11.size
        clear ho11 hk11
        go_wp2_with (at_builtin; refine halt ?_)
        simp only [hm]
        refine Halted.go (wpList_app00 _ rfl _ _ rfl _ a11 xs.length c11 xs rfl HO11.out m rfl (by omega) HS11.out ?_)
        intro a12 c12 w12 ho12 hk12 hn12
        have HK12 := Lib.hid (Keeps.mine_below HKL.out hk12 HS11.out (Nat.le_refl _))
        have HP12 := Lib.hid ((Below.keeps HK12.out).blk HPC.out (by have := HPC.out.lt; omega))
        have HR12 := Lib.hid ((Below.keeps HK12.out).blk HRC.out (by have := HRC.out.lt; omega))
        have HD12 : Hid (By w12 a9 N c9 ((xs ++ List.replicate m 0).take N)) := Lib.hid (by simpa using HDC.out.grow HK12.out)
        have HQ12 : Hid (By w12 a10 N c10 ((xs ++ List.replicate m 0).take N)) := Lib.hid (by simpa using HQC.out.grow HK12.out)
        have HA12 := Lib.hid ho12.by
        have HKT := Lib.hid (HKC.out.trans (HK12.out.mono HKC.out.size))
        clear ho12 hk12 hn12
        have hgt : decide (((xs.length + m : Nat) : Int) < ((p.toNat : Nat) : Int)) = false := by simp; omega
        have hwp : wrap64 (p.toNat : Int) = (p.toNat : Int) := by unfold wrap64; omega
        obtain ⟨⟨p0, p1, p2, p3, p4⟩, _⟩ := pay_cells HP12.out
        obtain ⟨⟨q0, q1, q2, q3, q4⟩, _⟩ := pay_cells HR12.out
        have hcut : N ≤ xs.length + m := by have := HNN.out; omega
        have HL12 := Lib.hid (HA12.out.pre hcut)
        have hwN : IntKind.i64.wrap (((xs.length + m : Nat) : Int) - ((p.toNat : Nat) : Int)) = (N : Int) := by have := HNN.out; rw [IntKind.wrap_i64]; omega
        have hwN2 : wrap64 (((xs.length + m : Nat) : Int) - ((p.toNat : Nat) : Int)) = (N : Int) := by have := HNN.out; unfold wrap64; omega
        have hc12 : (N : Int) ≤ (c12 : Int) := by have := HA12.out.2.le; omega
        have hN0 : (0 : Int) ≤ (N : Int) := by omega
        go_wp2_with fail
        have hwpI : IntKind.i64.wrap ((p.toNat : Nat) : Int) = ((p.toNat : Nat) : Int) := by rw [IntKind.wrap_i64]; omega
        have hwN3 : IntKind.i64.wrap ((xs.length : Int) + (m : Int) - ((p.toNat : Nat) : Int)) = (N : Int) := by have := HNN.out; rw [IntKind.wrap_i64]; omega
        go_region_held3 (fun w' => (convert 28 9 (.slice a9 N c9)).run Try.prog w' = .ok (.string ⟨((xs ++ List.replicate m 0).take N).toArray⟩) w' ∧ (convert 28 9 (.slice a12 N c12)).run Try.prog w' = .ok (.string ⟨((xs ++ List.replicate m 0).take N).toArray⟩) w' ∧ w'.cell? ⟨w9.heap.size, 0, none⟩ = some (.slice a9 N c9) ∧ w'.cell? ⟨w9.heap.size, 1, none⟩ = some (.slice none 0 0) ∧ w'.cell? ⟨w9.heap.size, 2, none⟩ = some (.int .u32 0) ∧ w'.cell? ⟨w9.heap.size, 3, none⟩ = some (.int .u32 0) ∧ w'.cell? ⟨w9.heap.size, 4, none⟩ = some (.int .u32 0) ∧ w'.cell? ⟨w10.heap.size, 0, none⟩ = some (.slice a10 N c10) ∧ w'.cell? ⟨w10.heap.size, 1, none⟩ = some (.slice none 0 0) ∧ w'.cell? ⟨w10.heap.size, 2, none⟩ = some (.int .u32 0) ∧ w'.cell? ⟨w10.heap.size, 3, none⟩ = some (.int .u32 0) ∧ w'.cell? ⟨w10.heap.size, 4, none⟩ = some (.int .u32 0))
          (first | exact ⟨By.cv (By.drew' HD12.out), By.cv (By.drew' HL12.out), p0, p1, p2, p3, p4, q0, q1, q2, q3, q4⟩ | exact ⟨By.cv HD13.out, By.cv HL13.out, z0, z1, z2, z3, z4, y0, y1, y2, y3, y4⟩)
          (first
          | (go_at_call 11
             go_must (
               refine (same_any a9 a10 N c9 c10 _ _ (By.drew' HD12.out) (By.drew' HQ12.out)).mono ?_
               rintro e w13 ⟨rfl, hk13⟩
               have HD13 := Lib.hid ((By.drew' HD12.out).grow hk13)
               have HL13 := Lib.hid ((By.drew' HL12.out).grow hk13)
               have HK13 := Lib.hid (HKT.out.drew.trans (hk13.mono HKT.out.size))
               have HP13 := Lib.hid ((Below.keeps hk13).blk HP12.out.drew (by have := HP12.out.lt; simpa using this))
               have HR13 := Lib.hid ((Below.keeps hk13).blk HR12.out.drew (by have := HR12.out.lt; simpa using this))
               obtain ⟨⟨z0, z1, z2, z3, z4⟩, _⟩ := pay_cells HP13.out
               obtain ⟨⟨y0, y1, y2, y3, y4⟩, _⟩ := pay_cells HR13.out
               clear hk13)))
        go_wp2_with fail
        go_returns
        exact ⟨by simp, HK13.out⟩
  · go_wp2_with fail
    go_returns
    exact ⟨rfl, HK1.out⟩

theorem walkPads (w : World) (hd pr : Bool) (p z : UInt8) (a : Option Addr) (n cap : Nat) (xs : List UInt8) (hx : By w a n cap xs) :
    Calls Try.prog 5 #[.bool hd, .bool pr, .int .u8 (p.toNat : Int), .slice a n cap, .int .u8 (z.toNat : Int)] w fun e w' => e = .returned (.bool true) ∧ Below w.heap.size w w' := by
  cases hd with
  | false => exact pads_data w pr p z a n cap xs hx
  | true =>
    cases pr with
    | false => exact pads_heads w p z a n cap xs hx
    | true => exact pads_prio w p z a n cap xs hx

theorem walkPayPads (w : World) (hd pr : Bool) (a2 : Int) (w2 : (Lit.int .u8 a2).wf = true) (v3 : Value) (h3 : Arg Try.prog w 28 v3) (a4 : Int) (w4 : (Lit.int .u8 a4).wf = true) :
    Calls Try.prog 5 #[.bool hd, .bool pr, .int .u8 a2, v3, .int .u8 a4] w fun e w' => e = .returned (.bool true) ∧ Below w.heap.size w w' := by
  obtain ⟨a, m, cap, xs, rfl, hby, _⟩ := h3.bytes
  have b2 := wf_u8_iff w2
  have b4 := wf_u8_iff w4
  obtain ⟨p, rfl⟩ : ∃ p : UInt8, a2 = (p.toNat : Int) := ⟨byt a2, by rw [byt_val]; omega⟩
  obtain ⟨z, rfl⟩ : ∃ z : UInt8, a4 = (z.toNat : Int) := ⟨byt a4, by rw [byt_val]; omega⟩
  exact walkPads w hd pr p z a m cap xs hby

end Go.Proofs.Ytcckdahpagkbaaa
