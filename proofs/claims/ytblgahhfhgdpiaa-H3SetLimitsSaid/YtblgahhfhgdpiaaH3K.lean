/- The chapter's example: known; frames that are light. -/
import Derived.Test.YtblgahhfhgdpiaaH3G
import Derived.Lib.SlBytesConst
import Derived.Lib.SmallJoins
namespace Go.Proofs.Ytblgahhfhgdpiaa
open Go.RowKit Go.Deep Go.Maps

/-- A row of what has just been made, two cells an element. -/
theorem Vw.new2 (w : World) (cs : List Value) (t : TypeId) (n : Nat) (hl : cs.length = n * 2) (h : n ≤ maxLen) : Vw (w.alloc (.cells cs.toArray t (0, 0))) (some ⟨w.heap.size, 0, none⟩) n n 2 cs := by
  refine ⟨Nat.le_refl _, h, hl, .inr ⟨w.heap.size, 0, rfl, by simp, fun j u hj => ?_⟩⟩
  have hb := Blk.new w cs.toArray t
  rw [Nat.zero_add, hb.cell j]
  simp [hj]
theorem Hv.new (w : World) (l : List Fr) (t : TypeId) (cs : Array Value) (hcs : cs = (Frs l).toArray) (h : l.length ≤ 1000) (hf : ∀ f ∈ l, 0 ≤ f.t ∧ f.t ≤ 18446744073709551615 ∧ By w f.a f.n f.cap f.xs ∧ ∀ b, f.a.map (·.block) = some b → b < w.heap.size) :
    ∀ w', Below (w.alloc (.cells cs t (0, 0))).heap.size (w.alloc (.cells cs t (0, 0))) w' → Hv w' (some ⟨w.heap.size, 0, none⟩) l.length l.length l := by
  intro w' hb
  subst hcs
  refine ⟨rfl, (Vw.new2 w (Frs l) t l.length (Frs_length l) (by unfold maxLen; omega)).below hb (fun b hb => by simp at hb; simp; omega), fun f hfl => ?_⟩
  obtain ⟨h0, h1, h2, h3⟩ := hf f hfl
  exact ⟨h0, h1, (h2.alloc _).below hb (fun b hb => by have := h3 b hb; simp; omega)⟩
theorem Sv.new (w : World) (l : List (Int × Int)) (t : TypeId) (cs : Array Value) (hcs : cs = (Ss l).toArray) (h : l.length ≤ 1000) (hf : ∀ f ∈ l, inU f.1 ∧ inU f.2) :
    ∀ w', Below (w.alloc (.cells cs t (0, 0))).heap.size (w.alloc (.cells cs t (0, 0))) w' → Sv w' (some ⟨w.heap.size, 0, none⟩) l.length l.length l := by
  intro w' hb
  subst hcs
  exact ⟨rfl, (Vw.new2 w (Ss l) t l.length (Ss_length l) (by unfold maxLen; omega)).below hb (fun b hb => by simp at hb; simp; omega), hf⟩
theorem Stay.new {w : World} {a : Option Addr} {n cap : Nat} {xs : List UInt8} (h : By w a n cap xs) (hl : ∀ b, a.map (·.block) = some b → b < w.heap.size) : Stay w.heap.size w a n cap xs := fun _ hb => h.below hb hl

theorem kx1 : setErr [] = 0 ∧ setT [] = 4 ∧ setB [] = [] := by decide +kernel
theorem kx2 (a b : Option Addr) (c d : Nat) : frsErr [⟨4, a, 0, c, []⟩, ⟨0, b, 2, d, [97, 98]⟩] = 0 := by kernel_rfl
theorem kx3 (a b : Option Addr) (c d : Nat) : frsR [] [⟨4, a, 0, c, []⟩, ⟨0, b, 2, d, [97, 98]⟩] = [4, 0, 0, 2, 97, 98] := by
  have h : frsOK [⟨4, a, 0, c, []⟩, ⟨0, b, 2, d, [97, 98]⟩] = true := by kernel_rfl
  have e : frsE [⟨4, a, 0, c, []⟩, ⟨0, b, 2, d, [97, 98]⟩] = varsE [4, 0] ++ [] ++ (varsE [0, 2] ++ [97, 98]) := by simp [frsE, frE]
  have e1 : varsE [4, 0] = [4, 0] := by decide +kernel
  have e2 : varsE [0, 2] = [0, 2] := by decide +kernel
  unfold frsR
  rw [h, if_pos rfl, e, e1, e2]
  rfl
theorem kx4 : frR [4, 0, 0, 2, 97, 98] = (4, [], 2, 0) := by decide +kernel
theorem kx5 : rsR 4 [2, 0] = ([], 4) := by decide +kernel
theorem kx6 : resB 33 = true ∧ resB 34 = false := by decide +kernel

theorem conv_two (w : World) (x y : Value) (g : Nat) (hg : g = w.heap.size) : (convert 22 22 (.slice (some ⟨g, 0, none⟩) 2 2)).run Try.prog (w.alloc (.cells #[x, y] 5 (0, 0))) = .ok (.slice (some ⟨g, 0, none⟩) 2 2) (w.alloc (.cells #[x, y] 5 (2, 3))) := by
  subst hg
  exact Lib.run_convert_bytes_const w 22 5 #[x, y] 2 2 Try.underlying22 Try.underlying5
theorem upon_conv {P : Program} {o : Oper} {a : Act} {K : Act → World → Prop} {Q : Exit → Act → World → Prop} {src dst : TypeId} {v u : Value} {w w' : World} (h : (convert src dst v).run P w = .ok u w') (hk : K (a.put o.dst u) w') :
    o.upon P a K Q (((convert src dst v).run P w).andThen fun a w' => .ok (.value a) w') := by rw [h]; exact hk
theorem By.mark (w : World) (xs : List UInt8) (vs : Array Value) (t : TypeId) (fr : Nat × Nat) (h : xs.length ≤ 1000) (hv : vs = (Bs xs).toArray) : By (w.alloc (.cells vs t fr)) (some ⟨w.heap.size, 0, none⟩) xs.length xs.length xs := by
  subst hv
  refine ⟨rfl, Nat.le_refl _, by unfold maxLen; omega, by simp [Bs], .inr ⟨w.heap.size, 0, rfl, by simp, fun j u hj => ?_⟩⟩
  rw [Nat.zero_add, World.cell?_alloc_mark]
  simpa using hj

set_option maxHeartbeats 3200000 in
theorem known_any (w : World) : Calls Try.prog 9 #[] w fun e w' => e = .returned (.bool true) ∧ Below w.heap.size w w' := by
  go_enter Try.func9, Try.ntmps9
  go_wp2_with fail
  refine (set_any none 0 0 [] w (fun w' _ => Sv.nil w') (by omega)).mono ?_
  rintro e w1 ⟨a1, n1, c1, rfl, ho1, hk1⟩
  rw [kx1.1, kx1.2.1]
  rw [kx1.2.2] at ho1
  obtain rfl : n1 = 0 := ho1.1
  have HO1 := Lib.hid ho1
  have HK1 := Lib.hid hk1
  have hs1 := hk1.size
  clear ho1 hk1
  go_wp2_with fail
  refine upon_conv (conv_two (w1.alloc (.cells #[.int .u64 4, .slice a1 0 c1] 33 (0, 0))) _ _ _ (by simp)) ?_
  go_wp2_with fail
  have hby : By (w1.alloc (.cells #[.int .u64 4, .slice a1 0 c1] 33 (0, 0))) a1 0 c1 [] := HO1.out.by.alloc _
  have hl1 : ∀ b, a1.map (·.block) = some b → b < w1.heap.size := HO1.out.lt
  have hbn := By.mark (w1.alloc (.cells #[.int .u64 4, .slice a1 0 c1] 33 (0, 0))) [97, 98] #[.int .u8 97, .int .u8 98] 5 (2, 3) (by simp) rfl
  rw [World.size_alloc] at hbn
  have hfr := Hv.new ((w1.alloc (.cells #[.int .u64 4, .slice a1 0 c1] 33 (0, 0))).alloc (.cells #[.int .u8 97, .int .u8 98] 5 (2, 3))) [⟨4, a1, 0, c1, []⟩, ⟨0, some ⟨w1.heap.size + 1, 0, none⟩, 2, 2, [97, 98]⟩] 33 _ rfl (by simp)
    (fun f hf => by
      simp only [List.mem_cons, List.not_mem_nil, or_false] at hf
      rcases hf with rfl | rfl
      · exact ⟨by simp, by simp, hby.alloc _, fun b hb => by have := hl1 b hb; simp; omega⟩
      · exact ⟨by simp, by simp, hbn, fun b hb => by simp at hb; simp; omega⟩)
  rw [show ((w1.alloc (.cells #[.int .u64 4, .slice a1 0 c1] 33 (0, 0))).alloc (.cells #[.int .u8 97, .int .u8 98] 5 (2, 3))).heap.size = w1.heap.size + 2 by simp] at hfr
  refine (h3write_any none 0 0 [] (some ⟨w1.heap.size + 2, 0, none⟩) 2 2 [⟨4, a1, 0, c1, []⟩, ⟨0, some ⟨w1.heap.size + 1, 0, none⟩, 2, 2, [97, 98]⟩] _ (By.nil _) hfr (by omega) (by omega) (fun f hf => by simp only [List.mem_cons, List.not_mem_nil, or_false] at hf; rcases hf with rfl | rfl <;> simp)).mono ?_
  rintro e w2 ⟨a2, n2, c2, rfl, ho2, hk2⟩
  rw [kx2]
  rw [kx3] at ho2
  obtain rfl : n2 = 6 := ho2.1
  have HK2 := Lib.hid ((((HK1.out.alloc hs1 (.cells #[.int .u64 4, .slice a1 0 c1] 33 (0, 0))).alloc (by simp; omega) (.cells #[.int .u8 97, .int .u8 98] 5 (2, 3))).alloc (by simp; omega) _).trans (hk2.mono (by simp; omega)))
  have hs2 : w.heap.size ≤ w2.heap.size := HK2.out.size
  have HO2 := Lib.hid ho2
  clear ho2 hk2 hfr hbn hby
  go_wp2_with fail
  refine (h3read_any a2 6 c2 [4, 0, 0, 2, 97, 98] w2 HO2.out.by (by omega)).mono ?_
  rintro e w3 ⟨a3, n3, c3, rfl, ho3, hk3⟩
  rw [kx4]
  rw [kx4] at ho3
  obtain rfl : n3 = 0 := ho3.1
  have HO3 := Lib.hid ho3
  have HK3 := Lib.hid (HK2.out.trans (hk3.mono hs2))
  have HB3 := Lib.hid (HO2.out.by.below hk3 HO2.out.lt)
  have hs3 : w.heap.size ≤ w3.heap.size := HK3.out.size
  have hs23 : w2.heap.size ≤ w3.heap.size := hk3.size
  clear ho3 hk3
  go_wp2_with fail
  have hbn := By.new (w3.alloc (.cells #[.int .u64 4, .slice a3 0 c3] 33 (0, 0))) [2, 0] #[.int .u8 2, .int .u8 0] 5 (by simp) rfl
  rw [World.size_alloc] at hbn
  refine (rset_any 4 (some ⟨w3.heap.size + 1, 0, none⟩) 2 2 [2, 0] _ (Stay.new hbn (fun b hb => by simp at hb; simp; omega)) (by omega)).mono ?_
  rintro e w4 ⟨a4, n4, c4, rfl, ho4, hk4⟩
  rw [kx5]
  rw [kx5] at ho4
  obtain rfl : n4 = 0 := ho4.1
  have hx := (Below.keeps hk4).blk ((Blk.new w3 #[.int .u64 4, .slice a3 0 c3] 33).alloc (.cells #[.int .u8 2, .int .u8 0] 5 (0, 0))) (by simp; omega)
  have q0 := hx.cell 0
  have HK4 := Lib.hid (((HK3.out.alloc hs3 (.cells #[.int .u64 4, .slice a3 0 c3] 33 (0, 0))).alloc (by simp; omega) (.cells #[.int .u8 2, .int .u8 0] 5 (0, 0))).trans (hk4.mono (by simp; omega)))
  have HB4 := Lib.hid (((HB3.out.alloc (.cells #[.int .u64 4, .slice a3 0 c3] 33 (0, 0))).alloc (.cells #[.int .u8 2, .int .u8 0] 5 (0, 0))).below hk4 (fun b hb => by have := HO2.out.lt b hb; simp; omega))
  clear ho4 hk4 hx hbn
  go_wp2_with fail
  refine By.upon HB4.out ?_
  go_wp2_with fail
  refine (reserved_any 33 w4 (by omega) (by omega)).mono ?_
  rintro e w' ⟨rfl, rfl⟩
  rw [kx6.1]
  go_wp2_with fail
  refine (reserved_any 34 w4 (by omega) (by omega)).mono ?_
  rintro e w' ⟨rfl, rfl⟩
  rw [kx6.2]
  go_wp2_with fail
  go_returns
  exact ⟨rfl, HK4.out⟩

/-- Frames that are light. -/
def lightB (l : List Fr) : Bool := decide (l.length ≤ 10 ∧ ∀ f ∈ l, f.n ≤ 200)
theorem light_not {l : List Fr} {i : Nat} (hi : i < l.length) (h : 200 < l[i].n) : lightB l = false := by
  unfold lightB
  simp only [decide_eq_false_iff_not]
  intro hh
  have := hh.2 l[i] (List.getElem_mem hi)
  omega

set_option maxHeartbeats 800000 in
theorem light_any (a : Option Addr) (n cap : Nat) (l : List Fr) (w : World) (hv : Hv w a n cap l) :
    Calls Try.prog 10 #[.slice a n cap] w fun e w' => e = .returned (.bool (lightB l)) ∧ w = w' := by
  have hcap := hv.2.1.le
  have hmax := hv.2.1.max
  unfold maxLen at hmax
  have HV := Lib.hid hv
  have HN := Lib.hid hv.1
  clear hv
  by_cases h10 : 10 < n
  · have HE : Hid (lightB l = false) := by show _ = _; unfold lightB; simp only [decide_eq_false_iff_not]; rw [← HN.out]; omega
    go_enter Try.func10, Try.ntmps10
    go_wp2_with fail
    go_returns
    exact ⟨by rw [HE.out]; rfl, rfl⟩
  · go_enter Try.func10, Try.ntmps10
    go_wp2_with fail
    go_loopg [3] n (fun k vi wr => ∃ (i : Nat), k + i = n ∧ vi = .int .i64 i ∧ (∀ f ∈ l.take i, f.n ≤ 200) ∧ w = wr)
    case atStart => exact ⟨0, by omega, rfl, by simp, rfl⟩
    case round =>
      obtain ⟨i, hi, rfl, hall, rfl⟩ := hrel
      have HI := Lib.hid hi
      have HALL := Lib.hid hall
      clear hi hall
      by_cases hin : i < n
      · have hix : i < l.length := by have := HN.out; omega
        obtain ⟨bb, oo, rfl, hbb, hcell⟩ := HV.out.get (by omega)
        have p2 := (hcell i hix).2
        clear hcell
        by_cases hb : 200 < l[i].n
        · have HE := Lib.hid (light_not hix hb)
          go_wp2_with fail
          go_returns
          exact ⟨by rw [HE.out]; rfl, rfl⟩
        · go_wp2_with fail
          obtain ⟨g', rfl⟩ : ∃ g', gk = g' + 1 := ⟨gk - 1, by have := HI.out; omega⟩
          go_roundg g'
          case measure => omega
          case rel =>
            refine ⟨i + 1, by have := HI.out; omega, by go_num, fun x hx => ?_, rfl⟩
            rw [List.take_succ_eq_append_getElem hix, List.mem_append] at hx
            rcases hx with hx | hx
            · exact HALL.out x hx
            · simp at hx
              subst hx
              omega
      · have HE : Hid (lightB l = true) := by
          show _ = _
          unfold lightB
          simp only [decide_eq_true_eq]
          refine ⟨by rw [← HN.out]; omega, fun f hf => HALL.out f ?_⟩
          rwa [List.take_of_length_le (by have := HN.out; omega)]
        go_wp2_with fail
        go_returns
        exact ⟨by rw [HE.out]; rfl, rfl⟩

end Go.Proofs.Ytblgahhfhgdpiaa
