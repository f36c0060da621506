/- firsts of the package huff. -/
import Derived.Test.YticdjfmebmblaaaHufB
import Derived.Test.YticdjfmebmblaaaHufC
import Derived.IntWalk
namespace Go.Proofs.Yticdjfmebmblaaa
open Go.RowKit Go.Deep

theorem results_cell_row2 {P : Program} {fn : Func} {p q : Tmp} {ty tq : TypeId} (h : fn.results = #[.cell p ty, .cell q tq]) (tmps : Array Value) (w : World) (g g' : Nat) (t t' : TypeId) (cs cs' : Array Value) (fr fr' : Nat × Nat) (d d' : TypeDesc)
    (hp : tmps.getD p undef = .pointer (some ⟨g, 0, none⟩)) (hg : w.heap[g]? = some (.cells cs t fr))
    (hu : P.underlying ty = some d) (hd : (match d with | .struct _ | .array _ _ => true | _ => false) = true) (hi : (P.info? ty).map (·.size) = some cs.size)
    (hp' : tmps.getD q undef = .pointer (some ⟨g', 0, none⟩)) (hg' : w.heap[g']? = some (.cells cs' t' fr'))
    (hu' : P.underlying tq = some d') (hd' : (match d' with | .struct _ | .array _ _ => true | _ => false) = true) (hi' : (P.info? tq).map (·.size) = some cs'.size) :
    (results fn tmps).run P w = .ok (.tuple #[.agg cs, .agg cs']) w := by
  have hq : tmps[p]?.getD undef = .pointer (some ⟨g, 0, none⟩) := by simpa using hp
  have hq' : tmps[q]?.getD undef = .pointer (some ⟨g', 0, none⟩) := by simpa using hp'
  simp [results, h, hq, hq', asAddr, run_loadVar_row w g t ty cs fr d hg hu hd hi, run_loadVar_row w g' t' tq cs' fr' d' hg' hu' hd' hi']

/-- Another cell of the block. -/
theorem cell_put_ne (w : World) (b i j : Nat) (v : Value) (h : i ≠ j) : (w.setCell ⟨b, i, none⟩ v).cell? ⟨b, j, none⟩ = w.cell? ⟨b, j, none⟩ := World.cell?_setCell_other _ _ _ _ (fun e => h (by cases e; rfl))

theorem Blk.range {w : World} {b : Nat} {cs : Array Value} {t : TypeId} (h : Blk w b cs t) : w.rangeAt b 0 cs.toList := fun j v hv => by
  rw [h.cell]
  simpa using hv
theorem Blk.there {w : World} {b : Nat} {cs : Array Value} {t : TypeId} (h : Blk w b cs t) {n : Nat} (hn : n ≤ cs.size) : w.there b 0 n := fun j hj => by
  rw [h.cell, h.free]
  have : j < cs.size := by omega
  simp [this]
theorem Ns_one (k : IntKind) (l : List Nat) : ∀ v ∈ (Ns k l).toList, v.oneCell' = true := by
  intro v hv
  simp only [Ns, List.mem_map] at hv
  obtain ⟨x, _, rfl⟩ := hv
  rfl
section
variable {P : Program}
theorem step_load_row {ops : Array Oper} {d : Option Tmp} {ty2 : TypeId} {pos : String} {af : Array Edge} {a : Act} {w : World} {K : Act → World → Prop} {Q : Exit → Act → World → Prop} {E : Prop} (ty : TypeId) (x : Operand)
    (g : Nat) (hx : a.eval x = .pointer (some ⟨g, 0, none⟩)) (t : TypeId) (cs : Array Value) (de : TypeDesc) (hg : Blk w g cs t)
    (hu : P.underlying ty = some de) (hd : (match de with | .struct _ | .array _ _ => true | _ => false) = true) (hi : (P.info? ty).map (·.size) = some cs.size)
    (h : K (a.put d (.agg cs)) w) : if Region.wanted ⟨d, .load ty x, ty2, pos, af, none⟩ (yielded ops a.tmps) = true then Oper.wp P ⟨d, .load ty x, ty2, pos, af, none⟩ a w K Q else E := by
  rw [if_pos (by simp [Region.wanted])]
  exact wp_load_row ty x rfl g hx t cs _ de hg hu hd hi h

theorem step_store_row {ops : Array Oper} {ty2 : TypeId} {pos : String} {af : Array Edge} {a : Act} {w : World} {K : Act → World → Prop} {Q : Exit → Act → World → Prop} {E : Prop} (ty : TypeId) (x y : Operand)
    (g : Nat) (cs : Array Value) (hx : a.eval x = .pointer (some ⟨g, 0, none⟩)) (hy : a.eval y = .agg cs) (t : TypeId) (old : Array Value) (hg : Blk w g old t)
    (hi : (P.info? ty).map (·.size) = some cs.size) (hold : old.size = cs.size) (h1 : cs.all (·.oneCell') = true)
    (h : K a (w.setRow g cs)) : if Region.wanted ⟨none, .store ty x y, ty2, pos, af, none⟩ (yielded ops a.tmps) = true then Oper.wp P ⟨none, .store ty x y, ty2, pos, af, none⟩ a w K Q else E := by
  rw [if_pos (by simp [Region.wanted])]
  exact wp_store_row ty x y rfl g cs hx hy t old hg hi hold h1 h
end

theorem info_f : (Try.prog.info? 60).map (fun i => (i.zero, i.size)) = some (some (.agg (zer .u32 32)), 32) := by kernel_rfl
theorem info_n : (Try.prog.info? 61).map (fun i => (i.zero, i.size)) = some (some (.agg (zer .i64 32)), 32) := by kernel_rfl

theorem cntL_length : cntL.length = 32 := by decide +kernel
theorem firstL_length : firstL.length = 32 := by decide +kernel
def firstV : Value := .agg (Ns .u32 firstL)
def cntV : Value := .agg (Ns .i64 cntL)

set_option maxHeartbeats 1600000 in
theorem firsts_any (b : Nat) (t : TypeId) (w : World) (hb : Blk w b (Ns .u8 lenL) t) : Calls Try.prog 23 #[.pointer (some ⟨b, 0, none⟩)] w fun e w' => e = .returned (.tuple #[firstV, cntV]) ∧ Below w.heap.size w w' := by
  obtain ⟨hz1, hi1⟩ := zero_of_info info_f
  obtain ⟨hz2, hi2⟩ := zero_of_info info_n
  have HI1 := Lib.hid hi1
  have HI2 := Lib.hid hi2
  have HB := Lib.hid hb
  have HBL := Lib.hid hb.lt
  clear hi1 hi2 hb
  go_enter Try.func23, Try.ntmps23
  go_wp2_with fail
  clear hz1 hz2
  have HO := Lib.hid (((Blk.new ((w.alloc (.cells (zer .u32 32) 60 (0, 0))).alloc (.cells (zer .i64 32) 61 (0, 0))) (zer .u32 32) 60).alloc (.cells (zer .i64 32) 61 (0, 0))))
  have HN := Lib.hid (Blk.new (((w.alloc (.cells (zer .u32 32) 60 (0, 0))).alloc (.cells (zer .i64 32) 61 (0, 0))).alloc (.cells (zer .u32 32) 60 (0, 0))) (zer .i64 32) 61)
  have HR0 := Lib.hid ((((Blk.new w (zer .u32 32) 60).alloc (.cells (zer .i64 32) 61 (0, 0))).alloc (.cells (zer .u32 32) 60 (0, 0))).alloc (.cells (zer .i64 32) 61 (0, 0)))
  have HR1 := Lib.hid (((Blk.new (w.alloc (.cells (zer .u32 32) 60 (0, 0))) (zer .i64 32) 61).alloc (.cells (zer .u32 32) 60 (0, 0))).alloc (.cells (zer .i64 32) 61 (0, 0)))
  have HL := Lib.hid ((((HB.out.alloc (.cells (zer .u32 32) 60 (0, 0))).alloc (.cells (zer .i64 32) 61 (0, 0))).alloc (.cells (zer .u32 32) 60 (0, 0))).alloc (.cells (zer .i64 32) 61 (0, 0)))
  have HK := Lib.hid (below_new (below_new (below_new (below_new (Below.refl w.heap.size w) (.cells (zer .u32 32) 60 (0, 0))) (.cells (zer .i64 32) 61 (0, 0))) (.cells (zer .u32 32) 60 (0, 0))) (.cells (zer .i64 32) 61 (0, 0)))
  have HS : Hid (((((w.alloc (.cells (zer .u32 32) 60 (0, 0))).alloc (.cells (zer .i64 32) 61 (0, 0))).alloc (.cells (zer .u32 32) 60 (0, 0))).alloc (.cells (zer .i64 32) 61 (0, 0))).heap.size = w.heap.size + 4) := by show _ = _; simp
  generalize ((((w.alloc (.cells (zer .u32 32) 60 (0, 0))).alloc (.cells (zer .i64 32) 61 (0, 0))).alloc (.cells (zer .u32 32) 60 (0, 0))).alloc (.cells (zer .i64 32) 61 (0, 0))) = w1 at *
  simp only [World.size_alloc] at HO HN HR1
  go_loopg [10] 257 (fun k vi wr => ∃ j : Nat, k + j = 257 ∧ vi = .int .i64 j ∧ Blk wr (w.heap.size + 3) (Ns .i64 (cntS j)) 61 ∧ Keeps (fun k => k = w.heap.size + 3) w1 wr)
  case atStart => exact ⟨0, rfl, rfl, by rw [cntS_start]; exact HN.out, Keeps.refl _ _⟩
  case round =>
    obtain ⟨j, hj, rfl, hn, hk⟩ := hrel
    have HJ := Lib.hid hj
    have HN1 := Lib.hid hn
    have HK1 := Lib.hid hk
    clear hj hn hk
    by_cases hlt : j < 257
    · have hx31 := len_ok j hlt
      have HC := Lib.hid (cntS_set j)
      have c1 : wr.cell? ⟨b, j, none⟩ = some (.int .u8 ((lenN j : Nat) : Int)) := by
        rw [(HK1.out.blk HL.out (by have := HBL.out; omega)).cell, Ns_get _ _ _ (by rw [lenL_length]; exact hlt)]; rfl
      have c2 : wr.cell? ⟨w.heap.size + 3, lenN j, none⟩ = some (.int .i64 ((cj j (lenN j) : Nat) : Int)) := by
        rw [HN1.out.cell, Ns_get _ _ _ (by rw [cntS_length]; omega), cntS_get _ _ (by omega)]
      have c3 : wr.frozen? ⟨w.heap.size + 3, lenN j, none⟩ = false := HN1.out.free _
      have hcl := cj_le j (lenN j)
      have HN2 := Lib.hid ((HN1.out.set (lenN j) (.int .i64 ((cj j (lenN j) + 1 : Nat) : Int))).as (by rw [Ns_set, HC.out]))
      have HK2 := Lib.hid (HK1.out.put (lenN j) (.int .i64 ((cj j (lenN j) + 1 : Nat) : Int)))
      have e1 : (Value.int .i64 ((cj j (lenN j) + 1 : Nat) : Int)) = .int .i64 ((cj j (lenN j) : Int) + 1) := by go_num
      rw [e1] at HN2 HK2
      clear e1
      generalize cj j (lenN j) = c at *
      generalize lenN j = x at *
      have hx0 : (0 : Int) ≤ (x : Int) := by omega
      have hx32 : (x : Int) < 32 := by omega
      have hj0 : (0 : Int) ≤ (j : Int) := by omega
      have hj257 : (j : Int) < 257 := by omega
      go_wp2_with fail
      obtain ⟨g, rfl⟩ : ∃ g, gk = g + 1 := ⟨gk - 1, by have := HJ.out; omega⟩
      go_roundg g
      case measure => omega
      case rel => exact ⟨j + 1, by have := HJ.out; omega, by go_num, HN2.out, HK2.out⟩
    · obtain rfl : j = 257 := by have := HJ.out; omega
      rw [cntS_end] at HN1
      clear hlt
      have HK3 := Lib.hid HK1.out
      clear HK1 HJ
      have HO2 := Lib.hid (HK3.out.blk HO.out (by omega))
      have HR02 := Lib.hid (HK3.out.blk HR0.out (by omega))
      have HR12 := Lib.hid (HK3.out.blk HR1.out (by omega))
      have HS2 : Hid (w.heap.size + 4 ≤ wr.heap.size) := by have := HK3.out.size; rw [HS.out] at this; exact this
      have HB2 := Lib.hid (Keeps.below HK.out HK3.out HK.out.size (fun k h => by omega))
      clear HO HR0 HR1 HL HK HS HB HBL HK3
      generalize wr = w2 at *
      go_wp2_with fail
      go_loopg [8] 30 (fun k vi wr => ∃ j : Nat, 1 ≤ j ∧ k + j = 31 ∧ vi = .int .i64 j ∧ Blk wr (w.heap.size + 2) (Ns .u32 (fstS j)) 60 ∧ Keeps (fun k => k = w.heap.size + 2) w2 wr)
      case atStart => exact ⟨1, by omega, rfl, rfl, by rw [fstS_start]; exact HO2.out, Keeps.refl _ _⟩
      case round =>
        obtain ⟨j, hj1, hj, rfl, hn, hk⟩ := hrel
        have HJ := Lib.hid hj
        have HO3 := Lib.hid hn
        have HK3 := Lib.hid hk
        clear hj hn hk
        by_cases hlt : j < 31
        · have HC := Lib.hid (fstS_set j)
          have hfs := fst_succ j hlt
          have c1 : wr.cell? ⟨w.heap.size + 2, j, none⟩ = some (.int .u32 ((fstN j : Nat) : Int)) := by
            rw [HO3.out.cell, Ns_get _ _ _ (by rw [fstS_length]; omega), fstS_get _ _ (by omega) (by omega)]
          have c2 : wr.cell? ⟨w.heap.size + 3, j, none⟩ = some (.int .i64 ((cntN j : Nat) : Int)) := by
            rw [(HK3.out.blk HN1.out (by omega)).cell, Ns_get _ _ _ (by rw [cntL_length]; omega)]; rfl
          obtain ⟨v, c3⟩ : ∃ v, wr.cell? ⟨w.heap.size + 2, j + 1, none⟩ = some v := ⟨_, by
            rw [HO3.out.cell, Ns_get _ _ _ (by rw [fstS_length]; omega)]⟩
          have c4 : wr.frozen? ⟨w.heap.size + 2, j + 1, none⟩ = false := HO3.out.free _
          have hcl := cnt_le j (by omega)
          have HN2 := Lib.hid ((HO3.out.set (j + 1) (.int .u32 ((fstN (j + 1) : Nat) : Int))).as (by rw [Ns_set, HC.out]))
          have HK2 := Lib.hid (HK3.out.put (j + 1) (.int .u32 ((fstN (j + 1) : Nat) : Int)))
          rw [hfs] at HN2 HK2
          clear hfs
          generalize fstN j = f at *
          generalize cntN j = c at *
          have hb := hcl.2.2 hlt
          clear hcl
          have hj0 : (0 : Int) ≤ (j : Int) := by omega
          have hj31 : (j : Int) < 31 := by omega
          have hj32 : (j : Int) < 32 := by omega
          have hk0 : (0 : Int) ≤ (j : Int) + 1 := by omega
          have hk32 : (j : Int) + 1 < 32 := by omega
          go_wp2_with fail
          have hw1 : IntKind.i64.wrap ((j : Int) + 1) = (j : Int) + 1 := IntWalk.i64_in _ (by omega)
          have hw2 : IntKind.u32.wrap (c : Int) = (c : Int) := by rw [IntKind.wrap_u32]; omega
          have hw3 : IntKind.u32.wrap ((f : Int) + (c : Int)) = (f : Int) + (c : Int) := by rw [IntKind.wrap_u32]; omega
          have hw4 : ((j : Int) + 1).toNat = j + 1 := by omega
          go_region_held3 (fun w' => w'.cell? ⟨w.heap.size + 2, j, none⟩ = some (.int .u32 ((f : Nat) : Int)) ∧ w'.cell? ⟨w.heap.size + 3, j, none⟩ = some (.int .i64 ((c : Nat) : Int))) (first | (go_keep; done) | refine ⟨by (show (World.setCell _ _ _).cell? _ = _; rw [cell_put_ne _ _ _ _ _ (by omega)]; assumption), by go_keep⟩) (fail)
          go_wp2_with fail
          obtain ⟨g, rfl⟩ : ∃ g, gk = g + 1 := ⟨gk - 1, by have := HJ.out; omega⟩
          go_roundg g
          case measure => omega
          case rel =>
            have ev : ((f : Int) + (c : Int)) * 2 = ((2 * (f + c) : Nat) : Int) := by omega
            refine ⟨j + 1, by omega, by have := HJ.out; omega, by go_num, ?_, ?_⟩
            · rw [ev]; exact HN2.out
            · rw [ev]; exact HK2.out.drew
        · obtain rfl : j = 31 := by have := HJ.out; omega
          rw [fstS_end] at HO3
          have HO4 := Lib.hid HO3.out
          have HN4 := Lib.hid (HK3.out.blk HN1.out (by omega))
          have HR04 := Lib.hid (HK3.out.blk HR02.out (by omega))
          have HR14 := Lib.hid (HK3.out.blk HR12.out (by omega))
          have HB4 := Lib.hid (Keeps.below HB2.out HK3.out HB2.out.size (fun k h => by omega))
          clear HO3 HN1 HR02 HR12 HB2 HK3 HO2 HS2 HN HJ hlt hj1
          generalize wr = w4 at *
          go_wp2_with fail
          have hi1 : (Try.prog.info? 60).map (·.size) = some (Ns .u32 firstL).size := by rw [HI1.out, Ns_size, firstL_length]
          have hi2 : (Try.prog.info? 61).map (·.size) = some (Ns .i64 cntL).size := by rw [HI2.out, Ns_size, cntL_length]
          have z1 : (zer .u32 32).size = (Ns .u32 firstL).size := by rw [zer_size, Ns_size, firstL_length]
          have z2 : (zer .i64 32).size = (Ns .i64 cntL).size := by rw [zer_size, Ns_size, cntL_length]
          have fin : ∀ (a : Act) (w' : World), a.tmps.getD 2 undef = .pointer (some ⟨w.heap.size, 0, none⟩) → a.tmps.getD 3 undef = .pointer (some ⟨w.heap.size + 1, 0, none⟩) → Blk w' w.heap.size (Ns .u32 firstL) 60 → Blk w' (w.heap.size + 1) (Ns .i64 cntL) 61 →
            (results Try.f23 a.tmps).run Try.prog w' = .ok (.tuple #[firstV, cntV]) w' := fun a w' h1 h2 h3 h4 =>
            results_cell_row2 rfl a.tmps w' _ _ _ _ _ _ _ _ _ _ h1 h3 Try.underlying60 rfl hi1 h2 h4 Try.underlying61 rfl hi2
          refine wp_region_any (by kernel_rfl) ?_
          change wpAny _ _ _ _ _ _ _ (World.drew _)
          refine wpAny_ready (rs := [0, 1]) (by kernel_rfl) (by simp) ?_
          refine AllReady.cons rfl (fun K hK => ?_) (AllReady.cons rfl (fun K hK => ?_) AllReady.nil)
          · refine step_load_row _ _ (w.heap.size + 1 + 1) rfl _ (Ns .u32 firstL) _ (HO4.out.drew) Try.underlying60 rfl hi1 ?_
            refine hK _ _ ?_
            clear hK
            refine wpAny_ready (rs := [1, 2]) (by kernel_rfl) (by simp) ?_
            refine AllReady.cons rfl (fun K hK => ?_) (AllReady.cons rfl (fun K hK => ?_) AllReady.nil)
            · refine step_load_row _ _ (w.heap.size + 1 + 1 + 1) rfl _ (Ns .i64 cntL) _ (HN4.out.drew) Try.underlying61 rfl hi2 ?_
              refine hK _ _ ?_
              clear hK
              refine wpAny_ready (rs := [2]) (by kernel_rfl) (by simp) ?_
              refine AllReady.cons rfl (fun K hK => ?_) AllReady.nil
              refine step_store_row _ _ _ w.heap.size (Ns .u32 firstL) rfl rfl _ (zer .u32 32) (HR04.out.drew) hi1 z1 (Ns_all _ _) ?_
              refine hK _ _ ?_
              clear hK
              refine wpAny_ready (rs := [3]) (by kernel_rfl) (by simp) ?_
              refine AllReady.cons rfl (fun K hK => ?_) AllReady.nil
              refine step_store_row _ _ _ (w.heap.size + 1) (Ns .i64 cntL) rfl rfl _ (zer .i64 32) (HR14.out.drew.setRow_ne (by omega) _) hi2 z2 (Ns_all _ _) ?_
              refine hK _ _ ?_
              clear hK
              refine wpAny_done (by kernel_rfl) ?_ _
              go_wp2_with fail
              exact bodyPost_ret (fin _ _ rfl rfl ((HR04.out.drew.setRow _).setRow_ne (by omega) _) ((HR14.out.drew.setRow_ne (by omega) _).setRow _)) rfl ⟨rfl, below_setRow (below_setRow HB4.out.drew (Nat.le_refl _) _) (by omega) _⟩
            · refine step_store_row _ _ _ w.heap.size (Ns .u32 firstL) rfl rfl _ (zer .u32 32) (HR04.out.drew) hi1 z1 (Ns_all _ _) ?_
              refine hK _ _ ?_
              clear hK
              refine wpAny_ready (rs := [1]) (by kernel_rfl) (by simp) ?_
              refine AllReady.cons rfl (fun K hK => ?_) AllReady.nil
              refine step_load_row _ _ (w.heap.size + 1 + 1 + 1) rfl _ (Ns .i64 cntL) _ (HN4.out.drew.setRow_ne (by omega) _) Try.underlying61 rfl hi2 ?_
              refine hK _ _ ?_
              clear hK
              refine wpAny_ready (rs := [3]) (by kernel_rfl) (by simp) ?_
              refine AllReady.cons rfl (fun K hK => ?_) AllReady.nil
              refine step_store_row _ _ _ (w.heap.size + 1) (Ns .i64 cntL) rfl rfl _ (zer .i64 32) (HR14.out.drew.setRow_ne (by omega) _) hi2 z2 (Ns_all _ _) ?_
              refine hK _ _ ?_
              clear hK
              refine wpAny_done (by kernel_rfl) ?_ _
              go_wp2_with fail
              exact bodyPost_ret (fin _ _ rfl rfl ((HR04.out.drew.setRow _).setRow_ne (by omega) _) ((HR14.out.drew.setRow_ne (by omega) _).setRow _)) rfl ⟨rfl, below_setRow (below_setRow HB4.out.drew (Nat.le_refl _) _) (by omega) _⟩
          · refine step_load_row _ _ (w.heap.size + 1 + 1 + 1) rfl _ (Ns .i64 cntL) _ (HN4.out.drew) Try.underlying61 rfl hi2 ?_
            refine hK _ _ ?_
            clear hK
            refine wpAny_ready (rs := [0]) (by kernel_rfl) (by simp) ?_
            refine AllReady.cons rfl (fun K hK => ?_) AllReady.nil
            refine step_load_row _ _ (w.heap.size + 1 + 1) rfl _ (Ns .u32 firstL) _ (HO4.out.drew) Try.underlying60 rfl hi1 ?_
            refine hK _ _ ?_
            clear hK
            refine wpAny_ready (rs := [2]) (by kernel_rfl) (by simp) ?_
            refine AllReady.cons rfl (fun K hK => ?_) AllReady.nil
            refine step_store_row _ _ _ w.heap.size (Ns .u32 firstL) rfl rfl _ (zer .u32 32) (HR04.out.drew) hi1 z1 (Ns_all _ _) ?_
            refine hK _ _ ?_
            clear hK
            refine wpAny_ready (rs := [3]) (by kernel_rfl) (by simp) ?_
            refine AllReady.cons rfl (fun K hK => ?_) AllReady.nil
            refine step_store_row _ _ _ (w.heap.size + 1) (Ns .i64 cntL) rfl rfl _ (zer .i64 32) (HR14.out.drew.setRow_ne (by omega) _) hi2 z2 (Ns_all _ _) ?_
            refine hK _ _ ?_
            clear hK
            refine wpAny_done (by kernel_rfl) ?_ _
            go_wp2_with fail
            exact bodyPost_ret (fin _ _ rfl rfl ((HR04.out.drew.setRow _).setRow_ne (by omega) _) ((HR14.out.drew.setRow_ne (by omega) _).setRow _)) rfl ⟨rfl, below_setRow (below_setRow HB4.out.drew (Nat.le_refl _) _) (by omega) _⟩

end Go.Proofs.Yticdjfmebmblaaa
