/- codes of the package huff; Bits. -/
import Derived.Test.YticdjfmebmblaaaHufD
namespace Go.Proofs.Yticdjfmebmblaaa
open Go.RowKit Go.Deep

section
variable {P : Program}
theorem run_index_one (t e len : Nat) (ht : P.underlying t = some (.array len e)) (k0 : IntKind) (he : P.underlying e = some (.int k0)) (hs : (P.info? e).map (·.size) = some 1) (cs : Array Value) (i : Nat) (hi : i < len) (v : Value) (hv : cs[i]? = some v) (k : IntKind) (w : World) :
    (Instr.index t (.agg cs) (.int k (i : Int))).run P w = .ok v w := by
  cases hq : P.info? e with
  | none => simp [hq] at hs
  | some ie =>
    have h1 : ie.size = 1 := by simpa [hq] using hs
    have h0 : (0 : Int) ≤ (i : Int) := by omega
    simp [Instr.index, asIntOf, run_underlying ht, part, isAgg, run_underlying he, sizeOf, typeInfo, hq, h1, hi, hv]

theorem run_index_two (t e len : Nat) (ht : P.underlying t = some (.array len e)) (fs : Array Field) (he : P.underlying e = some (.struct fs)) (hs : (P.info? e).map (·.size) = some 2) (cs : Array Value) (i : Nat) (hi : i < len) (v u : Value) (hv : cs[2 * i]? = some v) (hu : cs[2 * i + 1]? = some u) (k : IntKind) (w : World) :
    (Instr.index t (.agg cs) (.int k (i : Int))).run P w = .ok (.agg #[v, u]) w := by
  cases hq : P.info? e with
  | none => simp [hq] at hs
  | some ie =>
    have h1 : ie.size = 2 := by simpa [hq] using hs
    have h0 : (0 : Int) ≤ (i : Int) := by omega
    have hx : cs.extract (i * 2) (i * 2 + 2) = #[v, u] := by
      have h2 := (Array.getElem?_eq_some_iff.1 hu).1
      apply Array.ext_getElem?
      intro j
      rw [Array.getElem?_extract]
      have hc : j = 0 ∨ j = 1 ∨ 2 ≤ j := by omega
      rcases hc with rfl | rfl | hj
      · rw [if_pos (by omega)]; simp [Nat.mul_comm i 2, hv]
      · rw [if_pos (by omega)]; simp [Nat.mul_comm i 2, hu]
      · rw [if_neg (by omega)]; simp; omega
    simp [Instr.index, asIntOf, run_underlying ht, part, isAgg, run_underlying he, sizeOf, typeInfo, hq, h1, hi, hx]
end

/-- Pairs of a code and its length, side by side. -/
def Cs (l : List (Nat × Nat)) : Array Value := (l.flatMap fun p => [Value.int .u32 (p.1 : Int), Value.int .i64 (p.2 : Int)]).toArray

theorem Cs_size (l : List (Nat × Nat)) : (Cs l).size = 2 * l.length := by
  unfold Cs
  induction l with
  | nil => rfl
  | cons a l ih => simp at ih ⊢; omega
theorem Cs_get (l : List (Nat × Nat)) (i : Nat) (h : i < l.length) : (Cs l)[2 * i]? = some (.int .u32 ((l.getD i (0, 0)).1 : Int)) ∧ (Cs l)[2 * i + 1]? = some (.int .i64 ((l.getD i (0, 0)).2 : Int)) := by
  unfold Cs
  induction l generalizing i with
  | nil => simp at h
  | cons a l ih =>
    cases i with
    | zero => simp
    | succ i =>
      have := ih i (by simpa using h)
      simpa [Nat.mul_add] using this
theorem Cs_set (l : List (Nat × Nat)) (i a b : Nat) (h : i < l.length) : ((Cs l).setIfInBounds (2 * i) (.int .u32 (a : Int))).setIfInBounds (2 * i + 1) (.int .i64 (b : Int)) = Cs (l.set i (a, b)) := by
  unfold Cs
  induction l generalizing i with
  | nil => simp at h
  | cons x l ih =>
    cases i with
    | zero => simp
    | succ i =>
      have := ih i (by simpa using h)
      simp [Nat.mul_add] at this ⊢
      exact this
theorem Cs_all (l : List (Nat × Nat)) : (Cs l).all (·.oneCell') = true := by
  simp only [Cs, List.all_toArray, List.all_flatMap, List.all_eq_true]
  intro x _ v hv
  simp only [List.mem_cons, List.not_mem_nil, or_false] at hv
  rcases hv with rfl | rfl <;> rfl

def prS (j : Nat) : List (Nat × Nat) := (List.range 257).map fun i => if i < j then (codeN i, lenN i) else (0, 0)
theorem prS_length (j : Nat) : (prS j).length = 257 := by simp [prS]
theorem prS_set (j : Nat) : (prS j).set j (codeN j, lenN j) = prS (j + 1) := by
  unfold prS
  apply List.ext_getElem
  · simp
  · intro i h1 h2
    rw [List.getElem_set]
    simp only [List.getElem_map, List.getElem_range]
    by_cases e : j = i
    · subst e; rw [if_pos rfl, if_pos (by omega)]
    · rw [if_neg e]
      by_cases h : i < j
      · rw [if_pos h, if_pos (by omega)]
      · rw [if_neg h, if_neg (by omega)]
theorem prS_start : Cs (prS 0) = Cs (List.replicate 257 (0, 0)) := by
  have : prS 0 = List.replicate 257 (0, 0) := by decide +kernel
  rw [this]
def prL : List (Nat × Nat) := prS 257
theorem prL_get (i : Nat) (h : i < 257) : prL.getD i (0, 0) = (codeN i, lenN i) := by
  simp [prL, prS, List.getD, h]

theorem info_c : (Try.prog.info? 46).map (fun i => (i.zero, i.size)) = some (some (.agg (Cs (List.replicate 257 (0, 0)))), 514) := by kernel_rfl
def codesV : Value := .agg (Cs prL)

set_option maxHeartbeats 3200000 in
theorem codes_any (w : World) : Calls Try.prog 18 #[] w fun e w' => e = .returned codesV ∧ Below w.heap.size w w' := by
  have hc0 : ∀ j : Nat, j < 257 → ∀ (k : IntKind) (w : World), (Instr.index 49 (.agg (Ns .u8 lenL)) (.int k (j : Int))).run Try.prog w = .ok (.int .u8 ((lenN j : Nat) : Int)) w := fun j hj k w =>
    run_index_one _ _ _ Try.underlying49 _ Try.underlying5 (by kernel_rfl) _ j hj _ (by rw [Ns_get _ _ _ (by rw [lenL_length]; exact hj)]; rfl) k w
  have HX := Lib.hid hc0
  clear hc0
  obtain ⟨hz0, hi0⟩ := zero_of_info info_c
  obtain ⟨hz, hi⟩ := zero_of_info info_l
  obtain ⟨hz1, hi1⟩ := zero_of_info info_f
  obtain ⟨hz2, hi2⟩ := zero_of_info info_n
  have g0 : (Try.prog.info? 46).map (·.size) = some (Cs prL).size := by rw [hi0, Cs_size, prL, prS_length]
  have g1 : (Try.prog.info? 49).map (·.size) = some (Ns .u8 lenL).size := by rw [hi, Ns_size, lenL_length]
  have g2 : (Try.prog.info? 60).map (·.size) = some (Ns .u32 firstL).size := by rw [hi1, Ns_size, firstL_length]
  have g3 : (Try.prog.info? 61).map (·.size) = some (Ns .i64 cntL).size := by rw [hi2, Ns_size, cntL_length]
  have G0 := Lib.hid g0
  have G1 := Lib.hid g1
  have G2 := Lib.hid g2
  have G3 := Lib.hid g3
  clear hi0 hi hi1 hi2 g0 g1 g2 g3
  obtain ⟨Z, hZ⟩ : ∃ Z, Z = Cs (List.replicate 257 (0, 0)) := ⟨_, rfl⟩
  rw [← hZ] at hz0
  have HZ := Lib.hid hZ
  clear hZ
  go_enter Try.func18, Try.ntmps18
  go_wp2_with (go_at_call 19; refine (lengths_any _).mono ?_; rintro e w1 ⟨rfl, hk1⟩; refine halt ?_)
  have HR := Lib.hid ((Below.keeps hk1).blk ((Blk.new w Z 46).alloc (.cells Z 46 (0, 0))) (by simp; omega))
  have hb := (Below.keeps hk1).blk (Blk.new (w.alloc (.cells Z 46 (0, 0))) Z 46) (by simp)
  rw [World.size_alloc] at hb
  have HO := Lib.hid hb
  have HK1 := Lib.hid ((below_new (below_new (Below.refl w.heap.size w) (.cells Z 46 (0, 0))) (.cells Z 46 (0, 0))).trans (hk1.mono (by simp; omega)))
  have hs1 := hk1.size
  simp only [World.size_alloc] at hs1
  clear hk1 hb
  refine Halted.go ?_
  unfold lenV
  go_wp2_with (refine wpList_store_blk rfl 49 _ _ rfl w1.heap.size (Ns .u8 lenL) rfl rfl _ _ (Blk.new w1 (zer .u8 257) _) G1.out (by rw [zer_size, Ns_size, lenL_length]) (Ns_all _ _) ?_; refine halt ?_)
  rw [World.setRow_alloc_new]
  have HL := Lib.hid (Blk.new w1 (Ns .u8 lenL) 49)
  refine Halted.go ?_
  go_wp2_with (go_at_call 23; refine (firsts_any _ _ _ HL.out).mono ?_; rintro e w2 ⟨rfl, hk2⟩; refine halt ?_)
  have HL2 := Lib.hid ((Below.keeps hk2).blk HL.out (by simp))
  have HR2 := Lib.hid ((Below.keeps hk2).blk (HR.out.alloc (.cells (Ns .u8 lenL) 49 (0, 0))) (by simp; omega))
  have HO2 := Lib.hid ((Below.keeps hk2).blk (HO.out.alloc (.cells (Ns .u8 lenL) 49 (0, 0))) (by simp; omega))
  have HK2 := Lib.hid ((below_new HK1.out (.cells (Ns .u8 lenL) 49 (0, 0))).trans (hk2.mono (by simp; omega)))
  have hs2 := hk2.size
  simp only [World.size_alloc] at hs2
  clear hk2 HL HR HO HK1
  refine Halted.go ?_
  unfold firstV cntV
  go_wp2_with (refine wpList_store_blk rfl 60 _ _ rfl w2.heap.size (Ns .u32 firstL) rfl rfl _ (zer .u32 32) ((Blk.new w2 (zer .u32 32) _).alloc _) G2.out (by rw [zer_size, Ns_size, firstL_length]) (Ns_all _ _) ?_; refine halt ?_)
  have hbn := Blk.new (w2.alloc (.cells (zer .u32 32) 60 (0, 0))) (zer .i64 32) 61
  rw [World.size_alloc] at hbn
  have HBN := Lib.hid (hbn.setRow_ne (b' := w2.heap.size) (by omega) (Ns .u32 firstL))
  refine Halted.go (wpList_store_blk rfl 61 _ _ rfl (w2.heap.size + 1) (Ns .i64 cntL) rfl rfl _ (zer .i64 32) HBN.out G3.out (by rw [zer_size, Ns_size, cntL_length]) (Ns_all _ _) ?_)
  have HL3 := Lib.hid ((((HL2.out.alloc (.cells (zer .u32 32) 60 (0, 0))).alloc (.cells (zer .i64 32) 61 (0, 0))).setRow_ne (b' := w2.heap.size) (by omega) (Ns .u32 firstL)).setRow_ne (b' := w2.heap.size + 1) (by omega) (Ns .i64 cntL))
  have HR3 := Lib.hid ((((HR2.out.alloc (.cells (zer .u32 32) 60 (0, 0))).alloc (.cells (zer .i64 32) 61 (0, 0))).setRow_ne (b' := w2.heap.size) (by omega) (Ns .u32 firstL)).setRow_ne (b' := w2.heap.size + 1) (by omega) (Ns .i64 cntL))
  have HO3 := Lib.hid ((((HO2.out.alloc (.cells (zer .u32 32) 60 (0, 0))).alloc (.cells (zer .i64 32) 61 (0, 0))).setRow_ne (b' := w2.heap.size) (by omega) (Ns .u32 firstL)).setRow_ne (b' := w2.heap.size + 1) (by omega) (Ns .i64 cntL))
  have HX3 := Lib.hid (((((Blk.new w2 (zer .u32 32) 60).alloc (.cells (zer .i64 32) 61 (0, 0))).setRow (Ns .u32 firstL)).setRow_ne (b' := w2.heap.size + 1) (by omega) (Ns .i64 cntL)))
  have HK3 := Lib.hid (below_setRow (below_setRow (below_new (below_new HK2.out (.cells (zer .u32 32) 60 (0, 0))) (.cells (zer .i64 32) 61 (0, 0))) (show w.heap.size ≤ w2.heap.size by omega) (Ns .u32 firstL)) (show w.heap.size ≤ w2.heap.size + 1 by omega) (Ns .i64 cntL))
  clear hbn HBN HL2 HR2 HO2 HK2 hz hz1 hz2 hz0
  generalize ((((w2.alloc (.cells (zer .u32 32) 60 (0, 0))).alloc (.cells (zer .i64 32) 61 (0, 0))).setRow w2.heap.size (Ns .u32 firstL)).setRow (w2.heap.size + 1) (Ns .i64 cntL)) = w3 at *
  generalize w2.heap.size = b2 at *
  generalize w1.heap.size = b1 at *
  clear w2 w1
  go_wp2_with (refine wpList_load_row rfl 49 _ rfl b1 rfl _ (Ns .u8 lenL) _ _ HL3.out Try.underlying49 rfl G1.out ?_)
  obtain ⟨o, ho⟩ : ∃ o, o = w.heap.size + 1 := ⟨_, rfl⟩
  have HOO := Lib.hid ho
  rw [← ho] at HO3 ⊢
  clear ho
  go_loopg [13] 257 (fun k vi wr => ∃ j : Nat, k + j = 257 ∧ vi = .int .i64 j ∧ Blk wr o (Cs (prS j)) 46 ∧ Blk wr b2 (Ns .u32 (nxtS j)) 60 ∧ Keeps (fun k => k = o ∨ k = b2) w3 wr)
  case atStart => exact ⟨0, rfl, rfl, by rw [prS_start, ← HZ.out]; exact HO3.out, by rw [nxtS_start]; exact HX3.out, Keeps.refl _ _⟩
  case round =>
    obtain ⟨j, hj, rfl, h1, h2, hk⟩ := hrel
    have HJ := Lib.hid hj
    have H1 := Lib.hid h1
    have H2 := Lib.hid h2
    have HK := Lib.hid hk
    clear hj h1 h2 hk
    by_cases hlt : j < 257
    · have hix := HX.out j hlt
      have hx31 := len_ok j hlt
      have hce := code_eq j hlt
      have hcl := code_lt hlt
      have hle := (code_ok j hlt).2.1
      have hp : 2 ^ lenN j ≤ 2 ^ 30 := Nat.pow_le_pow_right (by omega) hle
      have hcb : codeN j < 1073741824 := Nat.lt_of_lt_of_le hcl hp
      clear hp hcl hle
      have c1 : wr.cell? ⟨b2, lenN j, none⟩ = some (.int .u32 ((codeN j : Nat) : Int)) := by
        rw [H2.out.cell, Ns_get _ _ _ (by rw [nxtS_length]; omega), nxtS_get _ _ (by omega), hce]
      have c2 : wr.frozen? ⟨b2, lenN j, none⟩ = false := H2.out.free _
      have hg := Cs_get (prS j) j (by rw [prS_length]; exact hlt)
      rw [Nat.mul_comm 2 j] at hg
      obtain ⟨v1, c3⟩ : ∃ v, wr.cell? ⟨o, j * 2, none⟩ = some v := ⟨_, by rw [H1.out.cell, hg.1]⟩
      obtain ⟨v2, c4⟩ : ∃ v, wr.cell? ⟨o, j * 2 + 1, none⟩ = some v := ⟨_, by rw [H1.out.cell, hg.2]⟩
      have c5 : wr.frozen? ⟨o, j * 2, none⟩ = false := H1.out.free _
      have c6 : wr.frozen? ⟨o, j * 2 + 1, none⟩ = false := H1.out.free _
      clear hg
      have hne : o ≠ b2 := by have := HOO.out; omega
      have hs1 := Cs_set (prS j) j (codeN j) (lenN j) (by rw [prS_length]; exact hlt)
      rw [prS_set, Nat.mul_comm 2 j] at hs1
      have hs2 : (Ns .u32 (nxtS j)).setIfInBounds (lenN j) (.int .u32 ((codeN j + 1 : Nat) : Int)) = Ns .u32 (nxtS (j + 1)) := by
        rw [Ns_set, ← hce, nxtS_set]
      have H1' := Lib.hid ((((H1.out.set (j * 2) (.int .u32 (codeN j : Int))).set (j * 2 + 1) (.int .i64 (lenN j : Int))).as hs1).set_ne (a := ⟨b2, lenN j, none⟩) hne (.int .u32 ((codeN j + 1 : Nat) : Int)))
      have H2' := Lib.hid ((((H2.out.set_ne (a := ⟨o, j * 2, none⟩) hne.symm (.int .u32 (codeN j : Int))).set_ne (a := ⟨o, j * 2 + 1, none⟩) hne.symm (.int .i64 (lenN j : Int))).set (lenN j) (.int .u32 ((codeN j + 1 : Nat) : Int))).as hs2)
      have HK' := Lib.hid (((HK.out.setCell (p := ⟨o, j * 2, none⟩) (fun _ => .inl rfl) (.int .u32 (codeN j : Int))).setCell (p := ⟨o, j * 2 + 1, none⟩) (fun _ => .inl rfl) (.int .i64 (lenN j : Int))).setCell (p := ⟨b2, lenN j, none⟩) (fun _ => .inr rfl) (.int .u32 ((codeN j + 1 : Nat) : Int)))
      clear hs1 hs2 hce
      have e1 : (Value.int .u32 ((codeN j + 1 : Nat) : Int)) = .int .u32 ((codeN j : Int) + 1) := by go_num
      rw [e1] at H1' H2' HK'
      clear e1
      generalize codeN j = c at *
      generalize lenN j = x at *
      have hx0 : (0 : Int) ≤ (x : Int) := by omega
      have hx32 : (x : Int) < 32 := by omega
      have hj0 : (0 : Int) ≤ (j : Int) := by omega
      have hj257 : (j : Int) < 257 := by omega
      go_wp2_with fail
      obtain ⟨g, rfl⟩ : ∃ g, gk = g + 1 := ⟨gk - 1, by have := HJ.out; omega⟩
      go_roundg g
      case measure => omega
      case rel => exact ⟨j + 1, by have := HJ.out; omega, by go_num, H1'.out, H2'.out, HK'.out⟩
    · obtain rfl : j = 257 := by have := HJ.out; omega
      have HC := Lib.hid H1.out
      have HR := Lib.hid (HK.out.blk HR3.out (by have := HOO.out; omega))
      have HB := Lib.hid (Keeps.below HK3.out HK.out HK3.out.size (fun k h => by have := HOO.out; omega))
      clear H1 H2 HK HR3 HK3 HX3 HO3 HL3 HJ hlt HX
      have hzs : Z.size = (Cs prL).size := by rw [HZ.out, Cs_size, Cs_size, prL, prS_length, List.length_replicate]
      have HZS := Lib.hid hzs
      clear HZ hzs
      go_wp2_with (refine wpList_load_row rfl 46 _ rfl o rfl _ (Cs prL) _ _ HC.out Try.underlying46 rfl G0.out ?_; refine halt ?_)
      refine Halted.go (wpList_store_blk rfl 46 _ _ rfl w.heap.size (Cs prL) rfl rfl _ Z HR.out G0.out HZS.out (Cs_all _) ?_)
      have HF := Lib.hid (HR.out.setRow (Cs prL))
      have HBF := Lib.hid (below_setRow HB.out (Nat.le_refl _) (Cs prL))
      go_wp2_with (exact bodyPost_ret (results_cell_row rfl _ _ w.heap.size _ _ _ _ rfl HF.out Try.underlying46 rfl G0.out) rfl ⟨rfl, HBF.out⟩)

end Go.Proofs.Yticdjfmebmblaaa
