/- levels of the package huff. -/
import Derived.Test.YticdjfmebmblaaaHufF
namespace Go.Proofs.Yticdjfmebmblaaa
open Go.RowKit Go.Deep

def lvS (j : Nat) : List Nat := (List.range 32).flatMap fun i => [if i < j then fstN i else 0, if i < j then cntN i else 0, if i ≤ j then atN i else 0]
def lvL : List Nat := lvS 31
theorem lvS_length (j : Nat) : (lvS j).length = 96 := by
  simp [lvS, List.length_flatMap]
  rfl
theorem lvS_start : lvS 1 = List.replicate 96 0 := by decide +kernel
theorem lvS_set : ∀ j, j < 31 → 1 ≤ j → (((lvS j).set (j * 3) (fstN j)).set (j * 3 + 1) (cntN j)).set ((j + 1) * 3 + 2) (atN (j + 1)) = lvS (j + 1) := by decide +kernel
theorem lvS_at : ∀ j, j < 31 → 1 ≤ j → (((lvS j).set (j * 3) (fstN j)).set (j * 3 + 1) (cntN j)).getD (j * 3 + 2) 0 = atN j ∧ atN (j + 1) = atN j + cntN j ∧ atN (j + 1) ≤ 257 := by decide +kernel
theorem lvL_get : ∀ x, x < 31 → lvL.getD (x * 3) 0 = fstN x ∧ lvL.getD (x * 3 + 1) 0 = cntN x ∧ lvL.getD (x * 3 + 2) 0 = atN x ∧ atN x ≤ 257 := by decide +kernel
theorem lvL_length : lvL.length = 96 := lvS_length 31
theorem orderL_length : orderL.length = 257 := by decide +kernel

theorem info_v : (Try.prog.info? 53).map (fun i => (i.zero, i.size)) = some (some (.agg (zer .i64 96)), 96) := by kernel_rfl
theorem info_o : (Try.prog.info? 54).map (fun i => (i.zero, i.size)) = some (some (.agg (zer .i64 257)), 257) := by kernel_rfl
def lvV : Value := .agg (Ns .i64 lvL)
def ordV : Value := .agg (Ns .i64 orderL)

set_option maxRecDepth 100000 in
set_option maxHeartbeats 6400000 in
theorem levels_any (w : World) : Calls Try.prog 20 #[] w fun e w' => e = .returned (.tuple #[lvV, ordV]) ∧ Below w.heap.size w w' := by
  have hc0 : ∀ j : Nat, j < 257 → ∀ (k : IntKind) (w : World), (Instr.index 49 (.agg (Ns .u8 lenL)) (.int k (j : Int))).run Try.prog w = .ok (.int .u8 ((lenN j : Nat) : Int)) w := fun j hj k w =>
    run_index_one _ _ _ Try.underlying49 _ Try.underlying5 (by kernel_rfl) _ j hj _ (by rw [Ns_get _ _ _ (by rw [lenL_length]; exact hj)]; rfl) k w
  have HX := Lib.hid hc0
  clear hc0
  obtain ⟨hzv, hiv⟩ := zero_of_info info_v
  obtain ⟨hzo, hio⟩ := zero_of_info info_o
  obtain ⟨hz, hi⟩ := zero_of_info info_l
  obtain ⟨hz1, hi1⟩ := zero_of_info info_f
  obtain ⟨hz2, hi2⟩ := zero_of_info info_n
  have gv : (Try.prog.info? 53).map (·.size) = some (Ns .i64 lvL).size := by rw [hiv, Ns_size, lvL_length]
  have go : (Try.prog.info? 54).map (·.size) = some (Ns .i64 orderL).size := by rw [hio, Ns_size, orderL_length]
  have g1 : (Try.prog.info? 49).map (·.size) = some (Ns .u8 lenL).size := by rw [hi, Ns_size, lenL_length]
  have g2 : (Try.prog.info? 60).map (·.size) = some (Ns .u32 firstL).size := by rw [hi1, Ns_size, firstL_length]
  have g3 : (Try.prog.info? 61).map (·.size) = some (Ns .i64 cntL).size := by rw [hi2, Ns_size, cntL_length]
  have GV := Lib.hid gv
  have GO := Lib.hid go
  have G1 := Lib.hid g1
  have G2 := Lib.hid g2
  have G3 := Lib.hid g3
  clear hiv hio hi hi1 hi2 g1 g2 g3 gv go
  go_enter Try.func20, Try.ntmps20
  go_wp2_with (go_at_call 19; refine (lengths_any _).mono ?_; rintro e w1 ⟨rfl, hk1⟩; refine halt ?_)
  have hb0 := (Below.keeps hk1).blk ((((Blk.new w (zer .i64 96) 53).alloc (.cells (zer .i64 257) 54 (0, 0))).alloc (.cells (zer .i64 96) 53 (0, 0))).alloc (.cells (zer .i64 257) 54 (0, 0))) (by simp; omega)
  have hb1 := (Below.keeps hk1).blk (((Blk.new (w.alloc (.cells (zer .i64 96) 53 (0, 0))) (zer .i64 257) 54).alloc (.cells (zer .i64 96) 53 (0, 0))).alloc (.cells (zer .i64 257) 54 (0, 0))) (by simp; omega)
  have hb2 := (Below.keeps hk1).blk ((Blk.new ((w.alloc (.cells (zer .i64 96) 53 (0, 0))).alloc (.cells (zer .i64 257) 54 (0, 0))) (zer .i64 96) 53).alloc (.cells (zer .i64 257) 54 (0, 0))) (by simp; omega)
  have hb3 := (Below.keeps hk1).blk (Blk.new (((w.alloc (.cells (zer .i64 96) 53 (0, 0))).alloc (.cells (zer .i64 257) 54 (0, 0))).alloc (.cells (zer .i64 96) 53 (0, 0))) (zer .i64 257) 54) (by simp)
  simp only [World.size_alloc] at hb1 hb2 hb3
  have HR0 := Lib.hid hb0
  have HR1 := Lib.hid hb1
  have HV := Lib.hid hb2
  have HO := Lib.hid hb3
  have HK1 := Lib.hid ((below_new (below_new (below_new (below_new (Below.refl w.heap.size w) (.cells (zer .i64 96) 53 (0, 0))) (.cells (zer .i64 257) 54 (0, 0))) (.cells (zer .i64 96) 53 (0, 0))) (.cells (zer .i64 257) 54 (0, 0))).trans (hk1.mono (by simp; omega)))
  have hs1 := hk1.size
  simp only [World.size_alloc] at hs1
  clear hk1 hb0 hb1 hb2 hb3 hzv hzo
  refine Halted.go ?_
  unfold lenV
  go_wp2_with (refine wpList_store_blk rfl 49 _ _ rfl w1.heap.size (Ns .u8 lenL) rfl rfl _ _ (Blk.new w1 (zer .u8 257) _) G1.out (by rw [zer_size, Ns_size, lenL_length]) (Ns_all _ _) ?_; refine halt ?_)
  rw [World.setRow_alloc_new]
  have HL := Lib.hid (Blk.new w1 (Ns .u8 lenL) 49)
  refine Halted.go ?_
  go_wp2_with (go_at_call 23; refine (firsts_any _ _ _ HL.out).mono ?_; rintro e w2 ⟨rfl, hk2⟩; refine halt ?_)
  have HL2 := Lib.hid ((Below.keeps hk2).blk HL.out (by simp))
  have HR02 := Lib.hid ((Below.keeps hk2).blk (HR0.out.alloc (.cells (Ns .u8 lenL) 49 (0, 0))) (by simp; omega))
  have HR12 := Lib.hid ((Below.keeps hk2).blk (HR1.out.alloc (.cells (Ns .u8 lenL) 49 (0, 0))) (by simp; omega))
  have HV2 := Lib.hid ((Below.keeps hk2).blk (HV.out.alloc (.cells (Ns .u8 lenL) 49 (0, 0))) (by simp; omega))
  have HO2 := Lib.hid ((Below.keeps hk2).blk (HO.out.alloc (.cells (Ns .u8 lenL) 49 (0, 0))) (by simp; omega))
  have HK2 := Lib.hid ((below_new HK1.out (.cells (Ns .u8 lenL) 49 (0, 0))).trans (hk2.mono (by simp; omega)))
  have hs2 := hk2.size
  simp only [World.size_alloc] at hs2
  clear hk2 HL HR0 HR1 HV HO HK1
  refine Halted.go ?_
  unfold firstV cntV
  go_wp2_with (refine wpList_store_blk rfl 60 _ _ rfl w2.heap.size (Ns .u32 firstL) rfl rfl _ (zer .u32 32) ((Blk.new w2 (zer .u32 32) _).alloc _) G2.out (by rw [zer_size, Ns_size, firstL_length]) (Ns_all _ _) ?_; refine halt ?_)
  have hbn := Blk.new (w2.alloc (.cells (zer .u32 32) 60 (0, 0))) (zer .i64 32) 61
  rw [World.size_alloc] at hbn
  have HBN := Lib.hid (hbn.setRow_ne (b' := w2.heap.size) (by omega) (Ns .u32 firstL))
  refine Halted.go (wpList_store_blk rfl 61 _ _ rfl (w2.heap.size + 1) (Ns .i64 cntL) rfl rfl _ (zer .i64 32) HBN.out G3.out (by rw [zer_size, Ns_size, cntL_length]) (Ns_all _ _) ?_)
  have HL3 := Lib.hid ((((HL2.out.alloc (.cells (zer .u32 32) 60 (0, 0))).alloc (.cells (zer .i64 32) 61 (0, 0))).setRow_ne (b' := w2.heap.size) (by omega) (Ns .u32 firstL)).setRow_ne (b' := w2.heap.size + 1) (by omega) (Ns .i64 cntL))
  have HR03 := Lib.hid ((((HR02.out.alloc (.cells (zer .u32 32) 60 (0, 0))).alloc (.cells (zer .i64 32) 61 (0, 0))).setRow_ne (b' := w2.heap.size) (by omega) (Ns .u32 firstL)).setRow_ne (b' := w2.heap.size + 1) (by omega) (Ns .i64 cntL))
  have HR13 := Lib.hid ((((HR12.out.alloc (.cells (zer .u32 32) 60 (0, 0))).alloc (.cells (zer .i64 32) 61 (0, 0))).setRow_ne (b' := w2.heap.size) (by omega) (Ns .u32 firstL)).setRow_ne (b' := w2.heap.size + 1) (by omega) (Ns .i64 cntL))
  have HV3 := Lib.hid ((((HV2.out.alloc (.cells (zer .u32 32) 60 (0, 0))).alloc (.cells (zer .i64 32) 61 (0, 0))).setRow_ne (b' := w2.heap.size) (by omega) (Ns .u32 firstL)).setRow_ne (b' := w2.heap.size + 1) (by omega) (Ns .i64 cntL))
  have HO3 := Lib.hid ((((HO2.out.alloc (.cells (zer .u32 32) 60 (0, 0))).alloc (.cells (zer .i64 32) 61 (0, 0))).setRow_ne (b' := w2.heap.size) (by omega) (Ns .u32 firstL)).setRow_ne (b' := w2.heap.size + 1) (by omega) (Ns .i64 cntL))
  have HX3 := Lib.hid ((((Blk.new w2 (zer .u32 32) 60).alloc (.cells (zer .i64 32) 61 (0, 0))).setRow (Ns .u32 firstL)).setRow_ne (b' := w2.heap.size + 1) (by omega) (Ns .i64 cntL))
  have HN3 := Lib.hid (HBN.out.setRow (Ns .i64 cntL))
  have HK3 := Lib.hid (below_setRow (below_setRow (below_new (below_new HK2.out (.cells (zer .u32 32) 60 (0, 0))) (.cells (zer .i64 32) 61 (0, 0))) (show w.heap.size ≤ w2.heap.size by omega) (Ns .u32 firstL)) (show w.heap.size ≤ w2.heap.size + 1 by omega) (Ns .i64 cntL))
  have HS3 : Hid (((((w2.alloc (.cells (zer .u32 32) 60 (0, 0))).alloc (.cells (zer .i64 32) 61 (0, 0))).setRow w2.heap.size (Ns .u32 firstL)).setRow (w2.heap.size + 1) (Ns .i64 cntL)).heap.size = w2.heap.size + 2) := by show _ = _; simp
  clear hbn HBN HL2 HR02 HR12 HV2 HO2 HK2 hz hz1 G2 G3
  generalize ((((w2.alloc (.cells (zer .u32 32) 60 (0, 0))).alloc (.cells (zer .i64 32) 61 (0, 0))).setRow w2.heap.size (Ns .u32 firstL)).setRow (w2.heap.size + 1) (Ns .i64 cntL)) = w3 at *
  generalize w2.heap.size = b2 at *
  generalize w1.heap.size = b1 at *
  clear w2 w1
  obtain ⟨v, hv⟩ : ∃ v, v = w.heap.size + 1 + 1 := ⟨_, rfl⟩
  obtain ⟨o, ho⟩ : ∃ o, o = w.heap.size + 1 + 1 + 1 := ⟨_, rfl⟩
  rw [← ho] at HO3
  rw [← hv] at HV3
  have hvo : v ≠ o ∧ v ≠ b2 ∧ v ≠ b2 + 1 ∧ o ≠ b2 ∧ o ≠ b2 + 1 ∧ v ≠ b1 ∧ o ≠ b1 := by omega
  have hwv : w.heap.size + 2 ≤ v ∧ w.heap.size + 2 ≤ o := by omega
  have HVO := Lib.hid hvo
  go_wp2_with fail
  rw [← ho, ← hv]
  clear hv ho hvo
  go_loopg [7] 30 (fun k vi wr => ∃ j : Nat, 1 ≤ j ∧ k + j = 31 ∧ vi = .int .i64 j ∧ Blk wr v (Ns .i64 (lvS j)) 53 ∧ Keeps (fun k => k = v) w3 wr)
  case atStart => exact ⟨1, by omega, rfl, rfl, by rw [lvS_start]; exact HV3.out, Keeps.refl _ _⟩
  case round =>
    obtain ⟨j, hj1, hj, rfl, h1, hk⟩ := hrel
    have HJ := Lib.hid hj
    have H1 := Lib.hid h1
    have HK := Lib.hid hk
    clear hj h1 hk
    by_cases hlt : j < 31
    · have hne := HVO.out
      have c1 : wr.cell? ⟨b2, j, none⟩ = some (.int .u32 ((fstN j : Nat) : Int)) := by
        rw [(HK.out.blk HX3.out (by omega)).cell, Ns_get _ _ _ (by rw [firstL_length]; omega)]; rfl
      have c2 : wr.cell? ⟨b2 + 1, j, none⟩ = some (.int .i64 ((cntN j : Nat) : Int)) := by
        rw [(HK.out.blk HN3.out (by omega)).cell, Ns_get _ _ _ (by rw [cntL_length]; omega)]; rfl
      obtain ⟨v1, c3⟩ : ∃ u, wr.cell? ⟨v, j * 3, none⟩ = some u := ⟨_, by rw [H1.out.cell, Ns_get _ _ _ (by rw [lvS_length]; omega)]⟩
      obtain ⟨v2, c4⟩ : ∃ u, wr.cell? ⟨v, j * 3 + 1, none⟩ = some u := ⟨_, by rw [H1.out.cell, Ns_get _ _ _ (by rw [lvS_length]; omega)]⟩
      have c5 : wr.frozen? ⟨v, j * 3, none⟩ = false := H1.out.free _
      have c6 : wr.frozen? ⟨v, j * 3 + 1, none⟩ = false := H1.out.free _
      have hcl := cnt_le j (by omega)
      have hb := hcl.2.2 hlt
      have hj0 : (0 : Int) ≤ (j : Int) := by omega
      have hj31 : (j : Int) < 31 := by omega
      have hj32 : (j : Int) < 32 := by omega
      have hjn : ((j : Int)).toNat = j := by omega
      have n1 : v ≠ b2 := hne.2.1
      have n2 : v ≠ b2 + 1 := hne.2.2.1
      clear hne hcl
      generalize hf : fstN j = f at *
      generalize hc : cntN j = c at *
      have HF := Lib.hid hf
      have HC := Lib.hid hc
      clear hf hc
      go_wp2_with fail
      have hw2 : IntKind.i64.wrap (f : Int) = (f : Int) := by rw [IntKind.wrap_i64]; omega
      go_region_held3 (fun w' => w'.cell? ⟨b2, j, none⟩ = some (.int .u32 ((f : Nat) : Int)) ∧ w'.cell? ⟨b2 + 1, j, none⟩ = some (.int .i64 ((c : Nat) : Int))) (go_keep) (fail)
      obtain ⟨l2, hl2⟩ : ∃ l, l = ((lvS j).set (j * 3) f).set (j * 3 + 1) c := ⟨_, rfl⟩
      have hat := lvS_at j hlt hj1
      have hst := lvS_set j hlt hj1
      rw [HF.out, HC.out, ← hl2] at hat hst
      have hl2n : l2.length = 96 := by rw [hl2]; simp [lvS_length]
      have HV' := Lib.hid ((((H1.out.set (j * 3) (.int .i64 (f : Int))).set (j * 3 + 1) (.int .i64 (c : Int))).as (show _ = Ns .i64 l2 by rw [Ns_set, Ns_set, hl2])).drew)
      have HK' := Lib.hid (((HK.out.put (j * 3) (.int .i64 (f : Int))).put (j * 3 + 1) (.int .i64 (c : Int))).drew)
      clear c1 c2 c3 c4 c5 c6 H1 HK HF hl2
      generalize ((wr.setCell ⟨v, j * 3, none⟩ (.int .i64 (f : Int))).setCell ⟨v, j * 3 + 1, none⟩ (.int .i64 (c : Int))).drew = wq at *
      have c1 : wq.cell? ⟨v, j * 3 + 2, none⟩ = some (.int .i64 ((atN j : Nat) : Int)) := by
        rw [HV'.out.cell, Ns_get _ _ _ (by omega), hat.1]
      have c2 : wq.cell? ⟨b2 + 1, j, none⟩ = some (.int .i64 ((c : Nat) : Int)) := by
        rw [(HK'.out.blk HN3.out (by omega)).cell, Ns_get _ _ _ (by rw [cntL_length]; omega), ← HC.out]; rfl
      obtain ⟨v3, c3⟩ : ∃ u, wq.cell? ⟨v, (j + 1) * 3 + 2, none⟩ = some u := ⟨_, by rw [HV'.out.cell, Ns_get _ _ _ (by omega)]⟩
      have c4 : wq.frozen? ⟨v, (j + 1) * 3 + 2, none⟩ = false := HV'.out.free _
      have HV2 := Lib.hid ((HV'.out.set ((j + 1) * 3 + 2) (.int .i64 ((atN (j + 1) : Nat) : Int))).as (by rw [Ns_set, hst]))
      have HK2 := Lib.hid (HK'.out.put ((j + 1) * 3 + 2) (.int .i64 ((atN (j + 1) : Nat) : Int)))
      rw [hat.2.1] at HV2 HK2
      have hab : atN j + c ≤ 257 := by rw [← hat.2.1]; exact hat.2.2
      clear hat hst HC
      generalize atN j = a at *
      go_wp2_with fail
      have hk0 : (0 : Int) ≤ (j : Int) + 1 := by omega
      have hk32 : (j : Int) + 1 < 32 := by omega
      have hw1 : IntKind.i64.wrap ((j : Int) + 1) = (j : Int) + 1 := IntWalk.i64_in _ (by omega)
      have hw4 : ((j : Int) + 1).toNat = j + 1 := by omega
      have hw5 : IntKind.i64.wrap ((a : Int) + (c : Int)) = (a : Int) + (c : Int) := IntWalk.i64_in _ (by omega)
      go_region_held3 (fun w' => w'.cell? ⟨v, j * 3 + 2, none⟩ = some (.int .i64 ((a : Nat) : Int)) ∧ w'.cell? ⟨b2 + 1, j, none⟩ = some (.int .i64 ((c : Nat) : Int))) (first | (go_keep; done) | refine ⟨by (show (World.setCell _ _ _).cell? _ = _; rw [cell_put_ne _ _ _ _ _ (by omega)]; assumption), by go_keep⟩) (fail)
      go_wp2_with fail
      obtain ⟨g, rfl⟩ : ∃ g, gk = g + 1 := ⟨gk - 1, by have := HJ.out; omega⟩
      go_roundg g
      case measure => omega
      case rel =>
        have ev : (a : Int) + (c : Int) = ((a + c : Nat) : Int) := by omega
        refine ⟨j + 1, by omega, by have := HJ.out; omega, by go_num, ?_, ?_⟩
        · rw [ev]; exact HV2.out.drew
        · rw [ev]; exact HK2.out.drew
    · obtain rfl : j = 31 := by have := HJ.out; omega
      have hne := HVO.out
      have HV4 : Hid (Blk wr v (Ns .i64 lvL) 53) := H1
      have HR04 := Lib.hid (HK.out.blk HR03.out (by omega))
      have HR14 := Lib.hid (HK.out.blk HR13.out (by omega))
      have HO4 := Lib.hid (HK.out.blk HO3.out hne.1.symm)
      have HL4 := Lib.hid (HK.out.blk HL3.out hne.2.2.2.2.2.1.symm)
      have hs4 : b2 + 2 ≤ wr.heap.size := by have := HK.out.size; rw [HS3.out] at this; exact this
      have HB4 := Lib.hid (Keeps.below HK3.out HK.out HK3.out.size (fun k h => by omega))
      clear H1 HK HR03 HR13 HO3 HL3 HS3 HK3 HV3 HX3 HN3 HJ hlt hj1 hne
      generalize wr = w4 at *
      go_wp2_with (refine wpList_load_row rfl 49 _ rfl b1 rfl _ (Ns .u8 lenL) _ _ (HL4.out.alloc (.cells (zer .i64 32) 61 (0, 0))) Try.underlying49 rfl G1.out ?_; refine halt ?_)
      have HV5 := Lib.hid (HV4.out.alloc (.cells (zer .i64 32) 61 (0, 0)))
      have HR05 := Lib.hid (HR04.out.alloc (.cells (zer .i64 32) 61 (0, 0)))
      have HR15 := Lib.hid (HR14.out.alloc (.cells (zer .i64 32) 61 (0, 0)))
      have HO5 := Lib.hid (HO4.out.alloc (.cells (zer .i64 32) 61 (0, 0)))
      have HN5 := Lib.hid (Blk.new w4 (zer .i64 32) 61)
      have HB5 := Lib.hid (below_new HB4.out (.cells (zer .i64 32) 61 (0, 0)))
      obtain ⟨nb, hnb⟩ : ∃ nb, nb = w4.heap.size := ⟨_, rfl⟩
      rw [← hnb] at HN5 hs4
      rw [← hnb]
      have hnn : nb ≠ o ∧ nb ≠ v ∧ w.heap.size + 2 ≤ nb := by
        have h1 := HO4.out.lt
        have h2 := HV4.out.lt
        omega
      have HNN := Lib.hid hnn
      clear HV4 HR04 HR14 HO4 HL4 HB4 hnb hnn hz2 G1
      generalize w4.alloc (.cells (zer .i64 32) 61 (0, 0)) = w5 at *
      clear w4
      refine Halted.go ?_
      go_wp2_with fail
      go_loopg [46] 257 (fun k vi wr => ∃ j : Nat, k + j = 257 ∧ vi = .int .i64 j ∧ Blk wr o (Ns .i64 (ordS j)) 54 ∧ Blk wr nb (Ns .i64 (cntS j)) 61 ∧ Keeps (fun k => k = o ∨ k = nb) w5 wr)
      case atStart => exact ⟨0, rfl, rfl, by rw [ordS_start]; exact HO5.out, by rw [cntS_start]; exact HN5.out, Keeps.refl _ _⟩
      case round =>
        obtain ⟨j, hj, rfl, h1, h2, hk⟩ := hrel
        have HJ := Lib.hid hj
        have H1 := Lib.hid h1
        have H2 := Lib.hid h2
        have HK := Lib.hid hk
        clear hj h1 h2 hk
        by_cases hlt : j < 257
        · have hne := HNN.out
          have hvo := HVO.out
          have hix := HX.out j hlt
          have hx31 := len_ok j hlt
          have hrk := (rank_ok j hlt).1
          have hlv := lvL_get (lenN j) hx31
          have c1 : wr.cell? ⟨v, lenN j * 3 + 2, none⟩ = some (.int .i64 ((atN (lenN j) : Nat) : Int)) := by
            rw [(HK.out.blk HV5.out (by omega)).cell, Ns_get _ _ _ (by rw [lvL_length]; omega), hlv.2.2.1]
          have c2 : wr.cell? ⟨nb, lenN j, none⟩ = some (.int .i64 ((cj j (lenN j) : Nat) : Int)) := by
            rw [H2.out.cell, Ns_get _ _ _ (by rw [cntS_length]; omega), cntS_get _ _ (by omega)]
          obtain ⟨v3, c3⟩ : ∃ u, wr.cell? ⟨o, rank j, none⟩ = some u := ⟨_, by rw [H1.out.cell, Ns_get _ _ _ (by rw [ordS_length]; omega)]⟩
          have c4 : wr.frozen? ⟨o, rank j, none⟩ = false := H1.out.free _
          have c5 : wr.frozen? ⟨nb, lenN j, none⟩ = false := H2.out.free _
          have hcl := cj_le j (lenN j)
          have H1' := Lib.hid ((((H1.out.set (rank j) (.int .i64 (j : Int))).as (by rw [Ns_set, ordS_set j hlt])).drew).set_ne (a := ⟨nb, lenN j, none⟩) hne.1.symm (.int .i64 ((cj j (lenN j) + 1 : Nat) : Int)))
          have H2' := Lib.hid ((((H2.out.set_ne (a := ⟨o, rank j, none⟩) hne.1 (.int .i64 (j : Int))).drew).set (lenN j) (.int .i64 ((cj j (lenN j) + 1 : Nat) : Int))).as (by rw [Ns_set, cntS_set]))
          have HK' := Lib.hid (((HK.out.setCell (p := ⟨o, rank j, none⟩) (fun _ => .inl rfl) (.int .i64 (j : Int))).drew).setCell (p := ⟨nb, lenN j, none⟩) (fun _ => .inr rfl) (.int .i64 ((cj j (lenN j) + 1 : Nat) : Int)))
          have e1 : (Value.int .i64 ((cj j (lenN j) + 1 : Nat) : Int)) = .int .i64 ((cj j (lenN j) : Int) + 1) := by go_num
          rw [e1] at H1' H2' HK'
          unfold rank at *
          have hat := hlv.2.2.2
          have n1 : o ≠ v := hvo.1.symm
          have n2 : nb ≠ o := hne.1
          have n3 : o ≠ nb := hne.1.symm
          clear e1 hne hvo hlv
          generalize cj j (lenN j) = c at *
          generalize atN (lenN j) = a at *
          generalize lenN j = x at *
          have hx0 : (0 : Int) ≤ (x : Int) := by omega
          have hx32 : (x : Int) < 32 := by omega
          have hj0 : (0 : Int) ≤ (j : Int) := by omega
          have hj257 : (j : Int) < 257 := by omega
          go_wp2_with fail
          have hw5 : IntKind.i64.wrap ((a : Int) + (c : Int)) = (a : Int) + (c : Int) := IntWalk.i64_in _ (by omega)
          have hw6 : (0 : Int) ≤ (a : Int) + (c : Int) := by omega
          have hw7 : (a : Int) + (c : Int) < 257 := by omega
          have hw8 : ((a : Int) + (c : Int)).toNat = a + c := by omega
          go_region_held3 (fun w' => w'.cell? ⟨v, x * 3 + 2, none⟩ = some (.int .i64 ((a : Nat) : Int)) ∧ w'.cell? ⟨nb, x, none⟩ = some (.int .i64 ((c : Nat) : Int))) (go_keep) (fail)
          go_wp2_with fail
          obtain ⟨g, rfl⟩ : ∃ g, gk = g + 1 := ⟨gk - 1, by have := HJ.out; omega⟩
          go_roundg g
          case measure => omega
          case rel => exact ⟨j + 1, by have := HJ.out; omega, by go_num, H1'.out, H2'.out, HK'.out⟩
        · obtain rfl : j = 257 := by have := HJ.out; omega
          have hne := HNN.out
          have hvo := HVO.out
          have HO6 := Lib.hid (H1.out.as (by rw [ordS_end]))
          have HV6 := Lib.hid (HK.out.blk HV5.out (by omega))
          have HR06 := Lib.hid (HK.out.blk HR05.out (by omega))
          have HR16 := Lib.hid (HK.out.blk HR15.out (by omega))
          have HB6 := Lib.hid (Keeps.below HB5.out HK.out HB5.out.size (fun k h => by omega))
          have Z1 : Hid ((zer .i64 96).size = (Ns .i64 lvL).size) := by show _ = _; rw [zer_size, Ns_size, lvL_length]
          have Z2 : Hid ((zer .i64 257).size = (Ns .i64 orderL).size) := by show _ = _; rw [zer_size, Ns_size, orderL_length]
          clear H1 H2 HK HV5 HR05 HR15 HO5 HN5 HB5 HJ hlt HX HNN HVO
          have fin : ∀ (a : Act) (w' : World), a.tmps.getD 0 undef = .pointer (some ⟨w.heap.size, 0, none⟩) → a.tmps.getD 1 undef = .pointer (some ⟨w.heap.size + 1, 0, none⟩) → Blk w' w.heap.size (Ns .i64 lvL) 53 → Blk w' (w.heap.size + 1) (Ns .i64 orderL) 54 →
            (results Try.f20 a.tmps).run Try.prog w' = .ok (.tuple #[lvV, ordV]) w' := fun a w' h1 h2 h3 h4 =>
            results_cell_row2 rfl a.tmps w' _ _ _ _ _ _ _ _ _ _ h1 h3 Try.underlying53 rfl GV.out h2 h4 Try.underlying54 rfl GO.out
          have FIN := Lib.hid fin
          clear fin
          go_wp2_with fail
          have fin := FIN.out
          refine wp_region_any (by kernel_rfl) ?_
          change wpAny _ _ _ _ _ _ _ (World.drew _)
          refine wpAny_ready (rs := [0, 1]) (by kernel_rfl) (by simp) ?_
          refine AllReady.cons rfl (fun K hK => ?_) (AllReady.cons rfl (fun K hK => ?_) AllReady.nil)
          · refine step_load_row _ _ v rfl _ (Ns .i64 lvL) _ (HV6.out.drew) Try.underlying53 rfl GV.out ?_
            refine hK _ _ ?_
            clear hK
            refine wpAny_ready (rs := [1, 2]) (by kernel_rfl) (by simp) ?_
            refine AllReady.cons rfl (fun K hK => ?_) (AllReady.cons rfl (fun K hK => ?_) AllReady.nil)
            · refine step_load_row _ _ o rfl _ (Ns .i64 orderL) _ (HO6.out.drew) Try.underlying54 rfl GO.out ?_
              refine hK _ _ ?_
              clear hK
              refine wpAny_ready (rs := [2]) (by kernel_rfl) (by simp) ?_
              refine AllReady.cons rfl (fun K hK => ?_) AllReady.nil
              refine step_store_row _ _ _ w.heap.size (Ns .i64 lvL) rfl rfl _ (zer .i64 96) (HR06.out.drew) GV.out Z1.out (Ns_all _ _) ?_
              refine hK _ _ ?_
              clear hK
              refine wpAny_ready (rs := [3]) (by kernel_rfl) (by simp) ?_
              refine AllReady.cons rfl (fun K hK => ?_) AllReady.nil
              refine step_store_row _ _ _ (w.heap.size + 1) (Ns .i64 orderL) rfl rfl _ (zer .i64 257) (HR16.out.drew.setRow_ne (by omega) _) GO.out Z2.out (Ns_all _ _) ?_
              refine hK _ _ ?_
              clear hK
              refine wpAny_done (by kernel_rfl) ?_ _
              go_wp2_with (exact bodyPost_ret (fin _ _ rfl rfl ((HR06.out.drew.setRow _).setRow_ne (by omega) _) ((HR16.out.drew.setRow_ne (by omega) _).setRow _)) rfl ⟨rfl, below_setRow (below_setRow HB6.out.drew (Nat.le_refl _) _) (by omega) _⟩)
            · refine step_store_row _ _ _ w.heap.size (Ns .i64 lvL) rfl rfl _ (zer .i64 96) (HR06.out.drew) GV.out Z1.out (Ns_all _ _) ?_
              refine hK _ _ ?_
              clear hK
              refine wpAny_ready (rs := [1]) (by kernel_rfl) (by simp) ?_
              refine AllReady.cons rfl (fun K hK => ?_) AllReady.nil
              refine step_load_row _ _ o rfl _ (Ns .i64 orderL) _ (HO6.out.drew.setRow_ne (by omega) _) Try.underlying54 rfl GO.out ?_
              refine hK _ _ ?_
              clear hK
              refine wpAny_ready (rs := [3]) (by kernel_rfl) (by simp) ?_
              refine AllReady.cons rfl (fun K hK => ?_) AllReady.nil
              refine step_store_row _ _ _ (w.heap.size + 1) (Ns .i64 orderL) rfl rfl _ (zer .i64 257) (HR16.out.drew.setRow_ne (by omega) _) GO.out Z2.out (Ns_all _ _) ?_
              refine hK _ _ ?_
              clear hK
              refine wpAny_done (by kernel_rfl) ?_ _
              go_wp2_with (exact bodyPost_ret (fin _ _ rfl rfl ((HR06.out.drew.setRow _).setRow_ne (by omega) _) ((HR16.out.drew.setRow_ne (by omega) _).setRow _)) rfl ⟨rfl, below_setRow (below_setRow HB6.out.drew (Nat.le_refl _) _) (by omega) _⟩)
          · refine step_load_row _ _ o rfl _ (Ns .i64 orderL) _ (HO6.out.drew) Try.underlying54 rfl GO.out ?_
            refine hK _ _ ?_
            clear hK
            refine wpAny_ready (rs := [0]) (by kernel_rfl) (by simp) ?_
            refine AllReady.cons rfl (fun K hK => ?_) AllReady.nil
            refine step_load_row _ _ v rfl _ (Ns .i64 lvL) _ (HV6.out.drew) Try.underlying53 rfl GV.out ?_
            refine hK _ _ ?_
            clear hK
            refine wpAny_ready (rs := [2]) (by kernel_rfl) (by simp) ?_
            refine AllReady.cons rfl (fun K hK => ?_) AllReady.nil
            refine step_store_row _ _ _ w.heap.size (Ns .i64 lvL) rfl rfl _ (zer .i64 96) (HR06.out.drew) GV.out Z1.out (Ns_all _ _) ?_
            refine hK _ _ ?_
            clear hK
            refine wpAny_ready (rs := [3]) (by kernel_rfl) (by simp) ?_
            refine AllReady.cons rfl (fun K hK => ?_) AllReady.nil
            refine step_store_row _ _ _ (w.heap.size + 1) (Ns .i64 orderL) rfl rfl _ (zer .i64 257) (HR16.out.drew.setRow_ne (by omega) _) GO.out Z2.out (Ns_all _ _) ?_
            refine hK _ _ ?_
            clear hK
            refine wpAny_done (by kernel_rfl) ?_ _
            go_wp2_with (exact bodyPost_ret (fin _ _ rfl rfl ((HR06.out.drew.setRow _).setRow_ne (by omega) _) ((HR16.out.drew.setRow_ne (by omega) _).setRow _)) rfl ⟨rfl, below_setRow (below_setRow HB6.out.drew (Nat.le_refl _) _) (by omega) _⟩)

end Go.Proofs.Yticdjfmebmblaaa
