/- The writer of the package qframe: ack. -/
import Derived.Test.YtgfkgmmigbpciaaQfG
import Derived.BigQuiet
import Derived.Deep.RegionWith
namespace Go.Proofs.Ytgfkgmmigbpciaa
set_option linter.unusedSimpArgs false
set_option linter.unusedVariables false
open Go.RowKit Go.Deep

theorem Uv.list (w : World) (t : TypeId) (vs : List Int) (h : ∀ v ∈ vs, inU v) (hl : vs.length ≤ 1000) : Uv (w.alloc (.cells (Us vs).toArray t (0, 0))) (some ⟨w.heap.size, 0, none⟩) vs.length vs.length vs := by
 refine ⟨rfl, ?_, h⟩
 have h1 : (Us vs).length = vs.length := by simp [Us]
 have := Vw.new w (Us vs) t (by rw [h1]; unfold maxLen; omega)
 rwa [h1] at this
theorem ackL_split (delay : Int) (rs : List (Int × Int)) (h : 0 < rs.length) : ackL delay rs = ackN delay rs 0 ++ gapsL rs[0].1 (rs.drop 1) := by
 cases rs with
 | nil => simp at h
 | cons r rest => simp [ackL, ackN, gapsL]
theorem then_namedB {K : Act → World → Prop} {Q' : Exit → Act → World → Prop} {n : Nat} {a : Act} {w : World} (h : ∀ b : Act, b = a → Exit.then K Q' .normal b w) : Exit.inBlock n (Exit.then K Q') .normal a w := h a rfl
theorem Rg_cells {w : World} {b : Nat} {v0 v1 : Value} {t : TypeId} (h : Blk w b #[v0, v1] t) : w.cell? ⟨b, 0, none⟩ = some v0 ∧ w.cell? ⟨b, 1, none⟩ = some v1 := ⟨h.cell 0, h.cell 1⟩

set_option maxRecDepth 100000 in
set_option maxHeartbeats 12800000 in
theorem ack_any (B wb : Nat) (a : Option Addr) (n c : Nat) (xs : List UInt8) (f : Qf) (w : World) (hw : Wr B w wb a n c xs) (hf : ∀ w', Below B w w' → Qin w' f) (ht : f.c.t = 2) (hn : n ≤ 10000000) (hn8 : f.n ≤ 1000000) (hB : B ≤ w.heap.size) :
  Calls Try.prog 38 #[.pointer (some ⟨wb, 0, none⟩), .agg f.cs] w (WrP B wb a (encO xs f.c) w) := by
 have HW := Lib.hid hw
 have HF := Lib.hid hf
 have HWF := Lib.hid (hf w (Below.refl _ _)).wf
 have HRL := Lib.hid (hf w (Below.refl _ _)).r.1
 have HK0 : Hid (Keeps (fun _ => False) w (w.alloc (.cells f.cs 32 (0, 0)))) := Lib.hid ((Keeps.refl _ w).alloc _)
 have HL1 := Lib.hid (Blk.new w f.cs 32)
 clear hw hf
 have HT := Lib.hid ht
 have HPL := Lib.hid (plan_2 ht)
 clear ht
 unfold Qf.cs at HK0 HL1 ⊢
 have HW1 := Lib.hid (HW.out.same HK0.out)
 go_enter Try.func38, Try.ntmps38
 go_upto_region 1 with fail
 refine wp_named ?_
 intro w1 hw1
 rw [hw1] at HK0 HL1 HW1
 have hs1 : w.heap.size ≤ w1.heap.size := HK0.out.size
 have HFR : Hid (¬ wrS B wb a w.heap.size) := Lib.hid (HW.out.fresh (Nat.le_refl _))
 have HB1 : Hid (Below B w w1) := Lib.hid (Keeps.below (Below.refl B w) HK0.out hB (fun _ h => False.elim h))
 have HK1 : Hid (Keeps (wrS B wb a) w1 w1) := Lib.hid (Keeps.refl _ _)
 have HN1 : Hid (Near B w1 a a) := Lib.hid (Near.refl B w1 a)
 have HKW : Hid (Keeps (wrS B wb a) w w1) := Lib.hid HK0.out.to
 clear hw1
 generalize w.heap.size = fb at *
 have hB1 : B ≤ w1.heap.size := by omega
 have q7 : w1.cell? ⟨fb, 7, none⟩ = some (.slice f.ra f.rn f.rc) := HL1.out.cell 7
 by_cases hl1 : 1 ≤ f.rn
 rotate_left
 ·have d1 : decide ((1 : Int) ≤ (f.rn : Int)) = false := by simp; omega
  have HBAD : Hid (ackOK f.c.rs = false) := Lib.hid (ack_len (by have := HRL.out; omega))
  go_wp2_with fail
  refine (must_no w1).mono ?_
  rintro e w' ⟨rfl, rfl⟩
  go_wp2_with fail
  refine ⟨rfl, ?_⟩
  rw [encO_no (by rw [HT.out]; decide) (by rw [HPL.out, if_neg (by rw [HBAD.out]; simp)])]
  exact WrP.panic (Keeps.trans2 HKW.out HK1.out (fun _ _ h => h))
 have d1 : decide ((1 : Int) ≤ (f.rn : Int)) = true := by simp; omega
 by_cases hl2 : f.rn ≤ 32
 rotate_left
 ·have d2 : decide ((f.rn : Int) ≤ 32) = false := by simp; omega
  have HBAD : Hid (ackOK f.c.rs = false) := Lib.hid (ack_len (by have := HRL.out; omega))
  go_wp2_with fail
  refine (must_no w1).mono ?_
  rintro e w' ⟨rfl, rfl⟩
  go_wp2_with fail
  refine ⟨rfl, ?_⟩
  rw [encO_no (by rw [HT.out]; decide) (by rw [HPL.out, if_neg (by rw [HBAD.out]; simp)])]
  exact WrP.panic (Keeps.trans2 HKW.out HK1.out (fun _ _ h => h))
 have d2 : decide ((f.rn : Int) ≤ 32) = true := by simp; omega
 go_wp2_with fail
 refine (must_ok w1).mono ?_
 rintro e w' ⟨rfl, rfl⟩
 clear d1 d2
 obtain ⟨bb, oo, hra, hbb, -⟩ := (HF.out w1 HB1.out).r.get (by omega)
 have HRA := Lib.hid hra
 go_wp2_with fail
 try rw [hra]
 clear hra
 go_loopg [22] f.rn (fun k vi wr => ∃ i : Nat, vi = .int .i64 i ∧ k + i = f.rn ∧ (∀ k (hk : k < f.c.rs.length), k < i → chkR f.c.rs k hk) ∧ Keeps (fun _ => False) w1 wr)
 case atStart => exact ⟨0, rfl, by omega, fun k hk h => by omega, Keeps.refl _ _⟩
 case round =>
  obtain ⟨i, rfl, hk, hc, hkw⟩ := hrel
  have HI := Lib.hid hk
  have HC := Lib.hid hc
  have HKR := Lib.hid hkw
  clear hk hc hkw q7
  have HBR : Hid (Below B w wr) := Lib.hid (Keeps.below HB1.out HKR.out hB1 (fun _ h => False.elim h))
  by_cases hin : i < f.rn
  ·have hix : i < f.c.rs.length := by have := HRL.out; omega
   obtain ⟨bb', oo', hra', -, hcell⟩ := (HF.out wr HBR.out).r.get (by omega)
   obtain ⟨rfl, rfl⟩ : bb = bb' ∧ oo = oo' := by rw [HRA.out] at hra'; simpa using hra'
   obtain ⟨c0, c1⟩ := hcell i hix
   have HCE := Lib.hid hcell
   have hwi := HWF.out.rs _ (List.getElem_mem hix)
   have HWI := Lib.hid hwi
   clear hra' hcell hwi
   obtain ⟨F, hF⟩ : ∃ F, f.c.rs[i].1 = F := ⟨_, rfl⟩
   obtain ⟨L, hL⟩ : ∃ L, f.c.rs[i].2 = L := ⟨_, rfl⟩
   rw [hF] at c0
   rw [hL] at c1
   have HFF := Lib.hid hF
   have HLL := Lib.hid hL
   clear hF hL
   go_upto_region 6 with fail
   refine wp_named ?_
   intro w5 hw5
   have hz5 : wr.heap.size < w5.heap.size := by rw [← hw5]; simp
   have HK5 : Hid (Keeps (fun _ => False) w1 w5) := Lib.hid (by rw [← hw5]; exact HKR.out.alloc _)
   have HK5r : Hid (Keeps (fun _ => False) wr w5) := Lib.hid (by rw [← hw5]; exact (Keeps.refl _ wr).alloc _)
   have hg5 : Blk w5 wr.heap.size #[.int .u64 F, .int .u64 L] 54 := by rw [← hw5]; exact Blk.new _ _ _
   obtain ⟨g0, g1⟩ := Rg_cells hg5
   clear hw5 hg5 c0 c1
   have hbr : bb < wr.heap.size := Nat.lt_of_lt_of_le hbb HKR.out.size
   have HCB : Hid (∀ o v, wr.cell? ⟨bb, o, none⟩ = some v → w5.cell? ⟨bb, o, none⟩ = some v) := Lib.hid (fun o v h => by rw [← h]; exact World.cell?_of_block (HK5r.out.block bb hbr (fun h => h)))
   generalize wr.heap.size = rb at *
   by_cases hfl : F ≤ L
   rotate_left
   ·have d1 : decide (F ≤ L) = false := decide_eq_false hfl
    have HBAD : Hid (ackOK f.c.rs = false) := Lib.hid (ack_bad HWF.out.rs hix (fun h => hfl (by rw [← HFF.out, ← HLL.out]; exact h.1)))
    go_wp2_with fail
    refine (must_no w5).mono ?_
    rintro e w' ⟨rfl, rfl⟩
    go_wp2_with fail
    refine ⟨rfl, ?_⟩
    rw [encO_no (by rw [HT.out]; decide) (by rw [HPL.out, if_neg (by rw [HBAD.out]; simp)])]
    exact WrP.panic (Keeps.trans2 HKW.out HK5.out (fun _ _ h => False.elim h))
   have d1 : decide (F ≤ L) = true := decide_eq_true hfl
   by_cases hlm : L ≤ 4611686018427387903
   rotate_left
   ·have d2 : decide (L ≤ 4611686018427387903) = false := decide_eq_false hlm
    have HBAD : Hid (ackOK f.c.rs = false) := Lib.hid (ack_bad HWF.out.rs hix (fun h => hlm (by rw [← HLL.out]; exact h.2.1)))
    go_wp2_with fail
    refine (must_no w5).mono ?_
    rintro e w' ⟨rfl, rfl⟩
    go_wp2_with fail
    refine ⟨rfl, ?_⟩
    rw [encO_no (by rw [HT.out]; decide) (by rw [HPL.out, if_neg (by rw [HBAD.out]; simp)])]
    exact WrP.panic (Keeps.trans2 HKW.out HK5.out (fun _ _ h => False.elim h))
   have d2 : decide (L ≤ 4611686018427387903) = true := decide_eq_true hlm
   go_wp2_with fail
   refine (must_ok w5).mono ?_
   rintro e w' ⟨rfl, rfl⟩
   clear d1 d2 g0
   obtain ⟨g, rfl⟩ : ∃ g, gk = g + 1 := ⟨gk - 1, by have := HI.out; omega⟩
   by_cases hi0 : i = 0
   ·have hib : ((i : Int) == 0) = true := by simp [hi0]
    have HCN : Hid (∀ k (hk : k < f.c.rs.length), k < i + 1 → chkR f.c.rs k hk) := Lib.hid (fun k hk hlt => by
     have hki : k = i := by omega
     subst hki
     exact ⟨by rw [HFF.out, HLL.out]; exact hfl, by rw [HLL.out]; exact hlm, .inl hi0⟩)
    clear hi0
    go_wp2_with fail
    go_quiet ((go_at_call 27; exact quiet_same (must_ok _)))
    go_wp2_with fail
    go_roundg g
    case measure => omega
    case rel => exact ⟨i + 1, by go_num, by have := HI.out; omega, HCN.out, HK5.out.drewN _⟩
   ·have hib : ((i : Int) == 0) = false := by simpa using hi0
    have hi1 : i - 1 < f.c.rs.length := by omega
    obtain ⟨p0, p1⟩ := HCE.out (i - 1) hi1
    have hpi := (HC.out (i - 1) hi1 (by omega))
    obtain ⟨G, hG⟩ : ∃ G, f.c.rs[i - 1].1 = G := ⟨_, rfl⟩
    rw [hG] at p0
    have HGG := Lib.hid hG
    have hg1 : G ≤ 4611686018427387903 := by rw [← hG]; exact Int.le_trans hpi.1 hpi.2.1
    have hg0 : 0 ≤ G := by rw [← hG]; exact (HWF.out.rs _ (List.getElem_mem hi1)).1.1
    have hL0 : 0 ≤ L := by rw [← HLL.out]; exact HWI.out.2.1
    clear hpi p1 hG
    have p5 : w5.cell? ⟨bb, oo + (i - 1) * 2, none⟩ = some (.int .u64 G) := by
     exact HCB.out _ _ p0
    have hw1 : IntKind.i64.wrap ((i : Int) - 1) = (i : Int) - 1 := by rw [IntKind.wrap_i64]; omega
    have hw2 : (0 : Int) ≤ (i : Int) - 1 := by omega
    have hw3 : ((i : Int) - 1).toNat = i - 1 := by omega
    have hw4 : (i : Int) - 1 < (f.rn : Int) := by omega
    have hw5 : (1 : Int) ≤ (i : Int) := by omega
    clear p0
    by_cases hg2 : 2 ≤ G
    ·have d1 : decide (2 ≤ G) = true := decide_eq_true hg2
     have hs2 : IntKind.u64.wrap (G - 2) = G - 2 := by rw [IntKind.wrap_u64]; omega
     by_cases hlg : L ≤ G - 2
     ·have d2 : decide (L ≤ G - 2) = true := decide_eq_true hlg
      have HCN : Hid (∀ k (hk : k < f.c.rs.length), k < i + 1 → chkR f.c.rs k hk) := Lib.hid (fun k hk hlt => by
       by_cases hki : k = i
       ·subst hki
        exact ⟨by rw [HFF.out, HLL.out]; exact hfl, by rw [HLL.out]; exact hlm, .inr ⟨by rw [HGG.out]; exact hg2, by rw [HLL.out, HGG.out]; exact hlg⟩⟩
       ·exact HC.out k hk (by omega))
      go_wp2_with fail
      go_quiet ((go_at_call 27; exact quiet_same (must_ok _)))
      clear hw1 hw2 hw3 hw4 hw5 hs2 d1 d2
      go_wp2_with fail
      go_roundg g
      case measure => omega
      case rel => exact ⟨i + 1, by go_num, by have := HI.out; omega, HCN.out, HK5.out.drewN _⟩
     ·have d2 : decide (L ≤ G - 2) = false := decide_eq_false hlg
      have HBAD : Hid (ackOK f.c.rs = false) := Lib.hid (ack_bad HWF.out.rs hix (fun h => by
       rcases h.2.2 with h | h
       ·exact hi0 h
       ·rw [HLL.out, HGG.out] at h; exact hlg h.2))
      go_wp2_with fail
      refine wp_region_held (S := fun w' : World => w'.cell? ⟨bb, oo + (i - 1) * 2, none⟩ = some (.int .u64 G) ∧ w'.cell? ⟨rb, 1, none⟩ = some (.int .u64 L)) (by kernel_rfl) ?_
      change wpAnyH _ _ _ _ _ _ _ _ (World.drew _)
      have hS : (fun w' : World => w'.cell? ⟨bb, oo + (i - 1) * 2, none⟩ = some (.int .u64 G) ∧ w'.cell? ⟨rb, 1, none⟩ = some (.int .u64 L)) w5.drew := ⟨p5, g1⟩
      refine tH (i := 0) (v := ?_) rfl ?_ hS ?_
      rotate_left
      ·intro wz ⟨_, _⟩; go_simp; try with_reducible rfl
      refine tH (i := 1) (v := ?_) rfl ?_ hS ?_
      rotate_left
      ·intro wz ⟨_, _⟩; go_simp; try with_reducible rfl
      refine tH (i := 2) (v := ?_) rfl ?_ hS ?_
      rotate_left
      ·intro wz ⟨_, _⟩; go_simp; try with_reducible rfl
      refine tH (i := 3) (v := ?_) rfl ?_ hS ?_
      rotate_left
      ·intro wz ⟨_, _⟩; go_simp; try with_reducible rfl
      refine tH (i := 4) (v := ?_) rfl ?_ hS ?_
      rotate_left
      ·intro wz ⟨_, _⟩; go_simp; try with_reducible rfl
      refine tH (i := 5) (v := ?_) rfl ?_ hS ?_
      rotate_left
      ·intro wz ⟨_, _⟩; go_simp; try with_reducible rfl
      refine tH (i := 6) (v := ?_) rfl ?_ hS ?_
      rotate_left
      ·intro wz ⟨_, _⟩; go_simp; try with_reducible rfl
      refine tH (i := 7) (v := ?_) rfl ?_ hS ?_
      rotate_left
      ·intro wz ⟨_, _⟩; go_simp; try with_reducible rfl
      refine tH (i := 8) (v := ?_) rfl ?_ hS ?_
      rotate_left
      ·intro wz ⟨_, _⟩; go_simp; try with_reducible rfl
      refine tH (i := 9) (v := ?_) rfl ?_ hS ?_
      rotate_left
      ·intro wz ⟨_, _⟩; go_simp; try with_reducible rfl
      refine tH (i := 10) (v := ?_) rfl ?_ hS ?_
      rotate_left
      ·intro wz ⟨_, _⟩; go_simp; try with_reducible rfl
      refine tH (i := 11) (v := ?_) rfl ?_ hS ?_
      rotate_left
      ·intro wz ⟨_, _⟩; go_simp; try with_reducible rfl
      refine tH (i := 12) (v := ?_) rfl ?_ hS ?_
      rotate_left
      ·intro wz ⟨_, _⟩; go_simp; try with_reducible rfl
      refine tH (i := 13) (v := ?_) rfl ?_ hS ?_
      rotate_left
      ·intro wz ⟨_, _⟩; go_simp; try with_reducible rfl
      refine tH (i := 14) (v := ?_) rfl ?_ hS ?_
      rotate_left
      ·intro wz ⟨_, _⟩; go_simp; try with_reducible rfl
      refine tH (i := 15) (v := ?_) rfl ?_ hS ?_
      rotate_left
      ·intro wz ⟨_, _⟩; go_simp; try with_reducible rfl
      refine tH (i := 16) (v := ?_) rfl ?_ hS ?_
      rotate_left
      ·intro wz ⟨_, _⟩; go_simp; try with_reducible rfl
      refine tH (i := 17) (v := ?_) rfl ?_ hS ?_
      rotate_left
      ·intro wz ⟨_, _⟩; go_simp; try with_reducible rfl
      refine tH (i := 18) (v := ?_) rfl ?_ hS ?_
      rotate_left
      ·intro wz ⟨_, _⟩; go_simp; try with_reducible rfl
      refine tH (i := 19) (v := ?_) rfl ?_ hS ?_
      rotate_left
      ·intro wz ⟨_, _⟩; go_simp; try with_reducible rfl
      refine tH (i := 20) (v := ?_) rfl ?_ hS ?_
      rotate_left
      ·intro wz ⟨_, _⟩; go_simp; try with_reducible rfl
      refine tH (i := 21) (v := ?_) rfl ?_ hS ?_
      rotate_left
      ·intro wz ⟨_, _⟩; go_simp; try with_reducible rfl
      refine tH (i := 22) (v := ?_) rfl ?_ hS ?_
      rotate_left
      ·intro wz ⟨_, _⟩; go_simp; try with_reducible rfl
      refine held_callP (i := 23) 27 #[.bool false] rfl (by kernel_rfl) (by kernel_rfl) ?_ ?_
      ·go_simp; try with_reducible rfl
      refine (must_no _).mono ?_
      rintro e w' ⟨rfl, rfl⟩
      refine .inr ⟨_, rfl, rfl, ?_⟩
      rw [encO_no (by rw [HT.out]; decide) (by rw [HPL.out, if_neg (by rw [HBAD.out]; simp)])]
      exact WrP.panic (Keeps.trans2 HKW.out HK5.out.drew (fun _ _ h => False.elim h))
    ·have d1 : decide (2 ≤ G) = false := decide_eq_false hg2
     have HBAD : Hid (ackOK f.c.rs = false) := Lib.hid (ack_bad HWF.out.rs hix (fun h => by
      rcases h.2.2 with h | h
      ·exact hi0 h
      ·rw [HGG.out] at h; exact hg2 h.1))
     go_wp2_with fail
     refine wp_region_held (S := fun w' : World => w'.cell? ⟨bb, oo + (i - 1) * 2, none⟩ = some (.int .u64 G) ∧ w'.cell? ⟨rb, 1, none⟩ = some (.int .u64 L)) (by kernel_rfl) ?_
     change wpAnyH _ _ _ _ _ _ _ _ (World.drew _)
     have hS : (fun w' : World => w'.cell? ⟨bb, oo + (i - 1) * 2, none⟩ = some (.int .u64 G) ∧ w'.cell? ⟨rb, 1, none⟩ = some (.int .u64 L)) w5.drew := ⟨p5, g1⟩
     refine tH (i := 0) (v := ?_) rfl ?_ hS ?_
     rotate_left
     ·intro wz ⟨_, _⟩; go_simp; try with_reducible rfl
     refine tH (i := 1) (v := ?_) rfl ?_ hS ?_
     rotate_left
     ·intro wz ⟨_, _⟩; go_simp; try with_reducible rfl
     refine tH (i := 2) (v := ?_) rfl ?_ hS ?_
     rotate_left
     ·intro wz ⟨_, _⟩; go_simp; try with_reducible rfl
     refine tH (i := 3) (v := ?_) rfl ?_ hS ?_
     rotate_left
     ·intro wz ⟨_, _⟩; go_simp; try with_reducible rfl
     refine tH (i := 4) (v := ?_) rfl ?_ hS ?_
     rotate_left
     ·intro wz ⟨_, _⟩; go_simp; try with_reducible rfl
     refine tH (i := 5) (v := ?_) rfl ?_ hS ?_
     rotate_left
     ·intro wz ⟨_, _⟩; go_simp; try with_reducible rfl
     refine tH (i := 6) (v := ?_) rfl ?_ hS ?_
     rotate_left
     ·intro wz ⟨_, _⟩; go_simp; try with_reducible rfl
     refine tH (i := 7) (v := ?_) rfl ?_ hS ?_
     rotate_left
     ·intro wz ⟨_, _⟩; go_simp; try with_reducible rfl
     refine tH (i := 8) (v := ?_) rfl ?_ hS ?_
     rotate_left
     ·intro wz ⟨_, _⟩; go_simp; try with_reducible rfl
     refine tH (i := 9) (v := ?_) rfl ?_ hS ?_
     rotate_left
     ·intro wz ⟨_, _⟩; go_simp; try with_reducible rfl
     refine tH (i := 10) (v := ?_) rfl ?_ hS ?_
     rotate_left
     ·intro wz ⟨_, _⟩; go_simp; try with_reducible rfl
     refine tS (i := 11) rfl hS ?_
     refine tS (i := 12) rfl hS ?_
     refine tS (i := 13) rfl hS ?_
     refine tS (i := 14) rfl hS ?_
     refine tS (i := 15) rfl hS ?_
     refine tS (i := 16) rfl hS ?_
     refine tS (i := 17) rfl hS ?_
     refine tS (i := 18) rfl hS ?_
     refine tS (i := 19) rfl hS ?_
     refine tS (i := 20) rfl hS ?_
     refine tH (i := 21) (v := ?_) rfl ?_ hS ?_
     rotate_left
     ·intro wz ⟨_, _⟩; go_simp; try with_reducible rfl
     refine tH (i := 22) (v := ?_) rfl ?_ hS ?_
     rotate_left
     ·intro wz ⟨_, _⟩; go_simp; try with_reducible rfl
     refine held_callP (i := 23) 27 #[.bool false] rfl (by kernel_rfl) (by kernel_rfl) ?_ ?_
     ·go_simp; try with_reducible rfl
     refine (must_no _).mono ?_
     rintro e w' ⟨rfl, rfl⟩
     refine .inr ⟨_, rfl, rfl, ?_⟩
     rw [encO_no (by rw [HT.out]; decide) (by rw [HPL.out, if_neg (by rw [HBAD.out]; simp)])]
     exact WrP.panic (Keeps.trans2 HKW.out HK5.out.drew (fun _ _ h => False.elim h))
  ·have HALL : Hid (∀ k (hk : k < f.c.rs.length), chkR f.c.rs k hk) := Lib.hid (fun k hk => HC.out k hk (by have := HRL.out; omega))
   have HGOOD : Hid (ackOK f.c.rs = true) := Lib.hid (ack_good (by have := HRL.out; omega) (by have := HRL.out; omega) HALL.out)
   have HE8 : Hid (encO xs f.c = numsO xs (ackL f.c.delay f.c.rs)) := Lib.hid (encO_nums (by rw [HT.out]; decide) (by rw [HPL.out, if_pos HGOOD.out]))
   have h0x : 0 < f.c.rs.length := by have := HRL.out; omega
   obtain ⟨bb', oo', hra', -, hcell⟩ := (HF.out wr HBR.out).r.get (by omega)
   obtain ⟨rfl, rfl⟩ : bb = bb' ∧ oo = oo' := by rw [HRA.out] at hra'; simpa using hra'
   obtain ⟨c0, c1⟩ := hcell 0 h0x
   obtain ⟨F0, hF⟩ : ∃ F, f.c.rs[0].1 = F := ⟨_, rfl⟩
   obtain ⟨L0, hL⟩ : ∃ L, f.c.rs[0].2 = L := ⟨_, rfl⟩
   rw [hF, Nat.zero_mul, Nat.add_zero] at c0
   rw [hL, Nat.zero_mul, Nat.add_zero] at c1
   have k1 : F0 ≤ L0 := by rw [← hF, ← hL]; exact (HALL.out 0 h0x).1
   have k2 : L0 ≤ 4611686018427387903 := by rw [← hL]; exact (HALL.out 0 h0x).2.1
   have k0 : 0 ≤ F0 := by rw [← hF]; exact (HWF.out.rs _ (List.getElem_mem h0x)).1.1
   have HN0 : Hid (ackN f.c.delay f.c.rs 0 = [2, L0, f.c.delay, (f.rn : Int) - 1, L0 - F0]) := Lib.hid (by rw [ackN_zero _ _ h0x, hF, hL, HRL.out])
   have HFF := Lib.hid hF
   have HLL := Lib.hid hL
   clear hF hL hra' hcell
   have HL5 := Lib.hid (HKR.out.blk HL1.out (fun h => h))
   have HW5 := Lib.hid (HW1.out.same HKR.out)
   have q6 : wr.cell? ⟨fb, 6, none⟩ = some (.int .u64 f.c.delay) := HL5.out.cell 6
   have hil : ¬ i < f.rn := hin
   clear hin
   go_wp2_with fail
   have e1 : IntKind.i64.wrap ((f.rn : Int) - 1) = (f.rn : Int) - 1 := by rw [IntKind.wrap_i64]; omega
   have e2 : IntKind.u64.wrap ((f.rn : Int) - 1) = (f.rn : Int) - 1 := by rw [IntKind.wrap_u64]; omega
   have e3 : IntKind.u64.wrap (L0 - F0) = L0 - F0 := by rw [IntKind.wrap_u64]; omega
   have e4 : (0 : Int) < (f.rn : Int) := by omega
   have e5 : 0 < f.rn := by omega
   have HKd : Hid (Keeps (fun _ => False) w1 wr.drew) := Lib.hid HKR.out.drew
   have HKd0 : Hid (Keeps (fun _ => False) wr wr.drew) := Lib.hid (Keeps.refl _ _).drew
   have HWd := Lib.hid (HW5.out.same HKd0.out)
   refine wp_region_held (S := fun w' : World => w'.cell? ⟨bb, oo, none⟩ = some (.int .u64 F0) ∧ w'.cell? ⟨bb, oo + 1, none⟩ = some (.int .u64 L0) ∧ w'.cell? ⟨fb, 6, none⟩ = some (.int .u64 f.c.delay)) (by kernel_rfl) ?_
   change wpAnyH _ _ _ _ _ _ _ _ (World.drew _)
   have hS : (fun w' : World => w'.cell? ⟨bb, oo, none⟩ = some (.int .u64 F0) ∧ w'.cell? ⟨bb, oo + 1, none⟩ = some (.int .u64 L0) ∧ w'.cell? ⟨fb, 6, none⟩ = some (.int .u64 f.c.delay)) wr.drew := ⟨c0, c1, q6⟩
   refine tH (i := 0) (v := ?_) rfl ?_ hS ?_
   rotate_left
   ·intro wz ⟨_, _, _⟩; go_simp; try with_reducible rfl
   refine tH (i := 1) (v := ?_) rfl ?_ hS ?_
   rotate_left
   ·intro wz ⟨_, _, _⟩; go_simp; try with_reducible rfl
   refine tH (i := 2) (v := ?_) rfl ?_ hS ?_
   rotate_left
   ·intro wz ⟨_, _, _⟩; go_simp; try with_reducible rfl
   refine tH (i := 3) (v := ?_) rfl ?_ hS ?_
   rotate_left
   ·intro wz ⟨_, _, _⟩; go_simp; try with_reducible rfl
   refine tH (i := 4) (v := ?_) rfl ?_ hS ?_
   rotate_left
   ·intro wz ⟨_, _, _⟩; go_simp; try with_reducible rfl
   refine tH (i := 5) (v := ?_) rfl ?_ hS ?_
   rotate_left
   ·intro wz ⟨_, _, _⟩; go_simp; try with_reducible rfl
   refine tH (i := 6) (v := ?_) rfl ?_ hS ?_
   rotate_left
   ·intro wz ⟨_, _, _⟩; go_simp; try with_reducible rfl
   refine tH (i := 7) (v := ?_) rfl ?_ hS ?_
   rotate_left
   ·intro wz ⟨_, _, _⟩; go_simp; try with_reducible rfl
   refine tH (i := 8) (v := ?_) rfl ?_ hS ?_
   rotate_left
   ·intro wz ⟨_, _, _⟩; go_simp; try with_reducible rfl
   refine tH (i := 9) (v := ?_) rfl ?_ hS ?_
   rotate_left
   ·intro wz ⟨_, _, _⟩; go_simp; try with_reducible rfl
   refine tH (i := 10) (v := ?_) rfl ?_ hS ?_
   rotate_left
   ·intro wz ⟨_, _, _⟩; go_simp; try with_reducible rfl
   refine tH (i := 11) (v := ?_) rfl ?_ hS ?_
   rotate_left
   ·intro wz ⟨_, _, _⟩; go_simp; try with_reducible rfl
   refine tH (i := 12) (v := ?_) rfl ?_ hS ?_
   rotate_left
   ·intro wz ⟨_, _, _⟩; go_simp; try with_reducible rfl
   refine tH (i := 13) (v := ?_) rfl ?_ hS ?_
   rotate_left
   ·intro wz ⟨_, _, _⟩; go_simp; try with_reducible rfl
   refine tH (i := 14) (v := ?_) rfl ?_ hS ?_
   rotate_left
   ·intro wz ⟨_, _, _⟩; go_simp; try with_reducible rfl
   refine tH (i := 15) (v := ?_) rfl ?_ hS ?_
   rotate_left
   ·intro wz ⟨_, _, _⟩; go_simp; try with_reducible rfl
   refine tH (i := 16) (v := ?_) rfl ?_ hS ?_
   rotate_left
   ·intro wz ⟨_, _, _⟩; go_simp; try with_reducible rfl
   refine tH (i := 17) (v := ?_) rfl ?_ hS ?_
   rotate_left
   ·intro wz ⟨_, _, _⟩; go_simp; try with_reducible rfl
   refine tH (i := 18) (v := ?_) rfl ?_ hS ?_
   rotate_left
   ·intro wz ⟨_, _, _⟩; go_simp; try with_reducible rfl
   refine tH (i := 19) (v := ?_) rfl ?_ hS ?_
   rotate_left
   ·intro wz ⟨_, _, _⟩; go_simp; try with_reducible rfl
   clear e1 e2 e3 e4 e5
   have HKa : Hid (Keeps (fun _ => False) w1 (wr.drew.alloc (.cells #[.int .u64 2, .int .u64 L0, .int .u64 f.c.delay, .int .u64 ((f.rn : Int) - 1), .int .u64 (L0 - F0)] 29 (0, 0)))) := Lib.hid (HKd.out.alloc _)
   have hSa : (fun w' : World => w'.cell? ⟨bb, oo, none⟩ = some (.int .u64 F0) ∧ w'.cell? ⟨bb, oo + 1, none⟩ = some (.int .u64 L0) ∧ w'.cell? ⟨fb, 6, none⟩ = some (.int .u64 f.c.delay)) (wr.drew.alloc (.cells #[.int .u64 2, .int .u64 L0, .int .u64 f.c.delay, .int .u64 ((f.rn : Int) - 1), .int .u64 (L0 - F0)] 29 (0, 0))) := by
    have hk : Keeps (fun _ => False) wr (wr.drew.alloc (.cells #[.int .u64 2, .int .u64 L0, .int .u64 f.c.delay, .int .u64 ((f.rn : Int) - 1), .int .u64 (L0 - F0)] 29 (0, 0))) := HKd0.out.alloc _
    have hbw : bb < wr.heap.size := Nat.lt_of_lt_of_le hbb HKR.out.size
    exact ⟨by rw [← c0]; exact World.cell?_of_block (hk.block bb hbw (fun h => h)), by rw [← c1]; exact World.cell?_of_block (hk.block bb hbw (fun h => h)), by rw [← q6]; exact World.cell?_of_block (hk.block fb HL5.out.lt (fun h => h))⟩
   refine held_do (i := 20) (.slice (some ⟨wr.heap.size, 0, none⟩) 5 5) (wr.drew.alloc (.cells #[.int .u64 2, .int .u64 L0, .int .u64 f.c.delay, .int .u64 ((f.rn : Int) - 1), .int .u64 (L0 - F0)] 29 (0, 0))) rfl (by kernel_rfl) (by kernel_rfl) ?_ hSa ?_
   ·go_simp; try with_reducible rfl
   refine held_callP (i := 21) 37 #[.pointer (some ⟨wb, 0, none⟩), .slice (some ⟨wr.heap.size, 0, none⟩) 5 5] rfl (by kernel_rfl) (by kernel_rfl) ?_ ?_
   ·go_simp; try with_reducible rfl
   have hBr : B ≤ wr.heap.size := Nat.le_trans hB1 HKR.out.size
   refine (nums_new B wb a n c xs _ 5 [2, L0, f.c.delay, (f.rn : Int) - 1, L0 - F0] wr.drew HWd.out (Uv.list wr.drew _ [2, L0, f.c.delay, (f.rn : Int) - 1, L0 - F0] (by
    intro v hv
    simp only [List.mem_cons, List.not_mem_nil, or_false] at hv
    rcases hv with rfl | rfl | rfl | rfl | rfl
    ·exact ⟨by omega, by omega⟩
    ·exact ⟨by omega, by omega⟩
    ·exact HWF.out.delay
    ·exact ⟨by omega, by omega⟩
    ·exact ⟨by omega, by omega⟩) (by simp)) (by omega) (by omega) hBr).mono ?_
   rintro e w2 ⟨hk0, hr⟩
   have hk : Keeps (wrS B wb a) w1 w2 := HKd.out.to.trans hk0
   cases hv : varsOK [2, L0, f.c.delay, (f.rn : Int) - 1, L0 - F0] with
   | false =>
    rw [numsO_no hv] at hr
    have hr' : e = .panicked [{ v := stopV, recovered := false }] := hr
    subst hr'
    refine .inr ⟨_, rfl, rfl, ?_⟩
    have h2 : encO xs f.c = none := by
     rw [HE8.out, ackL_split _ _ h0x, HN0.out]
     exact numsO_no (by rw [varsOK_append, hv]; rfl)
    rw [h2]
    exact WrP.panic (Keeps.trans2 HKW.out hk (fun _ _ h => h))
   | true =>
    rw [numsO_yes hv] at hr
    obtain ⟨rfl, a2, n2, c2, hw2, hn2⟩ := hr
    have HK2 := Lib.hid hk
    have HN2 : Hid (Near B w1 a a2) := Lib.hid (near_to hn2 HKd.out.size)
    have HW2 : Hid (Wr B w2 wb a2 n2 c2 (xs ++ varsE (ackN f.c.delay f.c.rs 0))) := Lib.hid (by rw [HN0.out]; exact hw2)
    have HL2 := Lib.hid (HK2.out.blk HL1.out HFR.out)
    have HB2 : Hid (Below B w w2) := Lib.hid (wrS_below HK2.out HB1.out hB1 HW.out.le)
    have hB2 : B ≤ w2.heap.size := by have := HK2.out.size; omega
    have hln2 : n2 ≤ n + 40 := by
     have h1 := hw2.len
     have h2 := HW.out.len
     have h3 := numsO_len (numsO_yes (xs := xs) hv)
     simp only [List.length_cons, List.length_nil] at h3
     omega
    obtain ⟨bb', oo', hra', -, hcell⟩ := (HF.out w2 HB2.out).r.get (by omega)
    obtain ⟨rfl, rfl⟩ : bb = bb' ∧ oo = oo' := by rw [HRA.out] at hra'; simpa using hra'
    obtain ⟨g0, g1⟩ := hcell 0 h0x
    rw [HFF.out, Nat.zero_mul, Nat.add_zero] at g0
    rw [HLL.out, Nat.zero_mul, Nat.add_zero] at g1
    refine .inl ⟨_, rfl, ⟨g0, g1, HL2.out.cell 6⟩, ?_⟩
    have HV0 : Hid (varsOK (ackN f.c.delay f.c.rs 0) = true) := Lib.hid (by rw [HN0.out]; exact hv)
    clear hv hk hk0 hw2 hn2 hS hSa g0 g1 c0 c1 q6 hcell hra'
    refine wpAnyH_done (by kernel_rfl) ?_ _
    refine then_named fun b9 hb9 => ?_
    subst hb9
    have e4 : (1 : Int) ≤ (f.rn : Int) := by omega
    have hrnc : f.rn ≤ f.rc := (HF.out w2 HB2.out).r.2.le
    have e5 : (f.rn : Int) ≤ (f.rc : Int) := by omega
    by_cases hrc : f.rc = 1
    ·have hrn1 : f.rn = 1 := by omega
     go_wp2_with fail
     go_loopg [88] (f.rn - 1) (fun k vi wl => ∃ (j : Nat) (a' : Option Addr) (n' c' : Nat), vi = .int .i64 j ∧ k + j = f.rn - 1 ∧ Wr B wl wb a' n' c' (xs ++ varsE (ackN f.c.delay f.c.rs j)) ∧ Keeps (wrS B wb a) w1 wl ∧ Near B w1 a a' ∧ n' ≤ n + 40 + 16 * j ∧ varsOK (ackN f.c.delay f.c.rs j) = true)
     case atStart => exact ⟨0, a2, n2, c2, rfl, by omega, HW2.out, HK2.out, HN2.out, by omega, HV0.out⟩
     case round =>
      obtain ⟨j, a3, n3, c3, rfl, hk3, hw3, hkk3, hn3, hl3, hv3⟩ := hrel
      have HV3 := Lib.hid hv3
      clear hv3
      have HJ := Lib.hid hk3
      have HW3 := Lib.hid hw3
      have HK3 := Lib.hid hkk3
      have HN3 := Lib.hid hn3
      clear hk3 hw3 hkk3 hn3
      by_cases hjn : j < f.rn - 1
      ·exfalso
       omega
      ·have hjn2 : j = f.rn - 1 := by have := HJ.out; omega
       have HX : Hid (ackN f.c.delay f.c.rs j = ackL f.c.delay f.c.rs) := Lib.hid (ackN_all _ _ _ (by have := HRL.out; omega))
       have hjI : ¬ ((j : Int) < (f.rn : Int) - 1) := by omega
       have HOKL : Hid (varsOK (ackL f.c.delay f.c.rs) = true) := Lib.hid (by rw [← HX.out]; exact HV3.out)
       clear hjn2 hjn
       go_wp2_with fail
       go_end0
       rw [HE8.out, numsO_yes HOKL.out, ← HX.out]
       exact ⟨Keeps.trans2 HKW.out HK3.out (fun _ _ h => h), rfl, a3, n3, c3, HW3.out, near_to HN3.out HKW.out.size⟩
    go_wp2_with fail
    go_loopg [88] (f.rn - 1) (fun k vi wl => ∃ (j : Nat) (a' : Option Addr) (n' c' : Nat), vi = .int .i64 j ∧ k + j = f.rn - 1 ∧ Wr B wl wb a' n' c' (xs ++ varsE (ackN f.c.delay f.c.rs j)) ∧ Keeps (wrS B wb a) w1 wl ∧ Near B w1 a a' ∧ n' ≤ n + 40 + 16 * j ∧ varsOK (ackN f.c.delay f.c.rs j) = true)
    case atStart => exact ⟨0, a2, n2, c2, rfl, by omega, HW2.out, HK2.out, HN2.out, by omega, HV0.out⟩
    case round =>
     obtain ⟨j, a3, n3, c3, rfl, hk3, hw3, hkk3, hn3, hl3, hv3⟩ := hrel
     have HV3 := Lib.hid hv3
     clear hv3
     have HJ := Lib.hid hk3
     have HW3 := Lib.hid hw3
     have HK3 := Lib.hid hkk3
     have HN3 := Lib.hid hn3
     clear hk3 hw3 hkk3 hn3
     by_cases hjn : j < f.rn - 1
     ·have hjx : j + 1 < f.c.rs.length := by have := HRL.out; omega
      have HB3 : Hid (Below B w wr) := Lib.hid (wrS_below HK3.out HB1.out hB1 HW.out.le)
      have hB3 : B ≤ wr.heap.size := by have := HK3.out.size; omega
      have HL3 := Lib.hid (HK3.out.blk HL1.out HFR.out)
      obtain ⟨bb', oo', hra', -, hcell⟩ := (HF.out wr HB3.out).r.get (by omega)
      obtain ⟨rfl, rfl⟩ : bb = bb' ∧ oo = oo' := by rw [HRA.out] at hra'; simpa using hra'
      obtain ⟨p0, -⟩ := hcell j (by omega)
      obtain ⟨c0, c1⟩ := hcell (j + 1) hjx
      obtain ⟨g1, g2, g3, g4, g5, g6, g7⟩ := gaps_ok HWF.out.rs HALL.out hjx
      have hstep := ackN_step f.c.delay f.c.rs j hjx
      obtain ⟨P, hP⟩ : ∃ P, (f.c.rs[j]'(by omega)).1 = P := ⟨_, rfl⟩
      obtain ⟨F, hF⟩ : ∃ F, f.c.rs[j + 1].1 = F := ⟨_, rfl⟩
      obtain ⟨L, hL⟩ : ∃ L, f.c.rs[j + 1].2 = L := ⟨_, rfl⟩
      rw [hP] at p0
      rw [hF, show oo + (j + 1) * 2 = oo + 2 + j * 2 by omega] at c0
      rw [hL, show oo + (j + 1) * 2 + 1 = oo + 2 + j * 2 + 1 by omega] at c1
      rw [hP, hF, hL] at g1 hstep
      rw [hP, hL] at g2
      rw [hL, hF] at g3
      rw [hP] at g4
      rw [hL] at g5 g7
      rw [hF] at g6
      have HPP := Lib.hid hP
      have HG1 := Lib.hid g1
      have HST := Lib.hid hstep
      clear g1 hstep hP hF hL hcell hra'
      have hjI : (j : Int) < (f.rn : Int) - 1 := by omega
      have hjN : (j : Int) < (f.rn : Int) := by omega
      have hj0 : (0 : Int) ≤ (j : Int) := by omega
      go_upto_region 13 with fail
      refine wp_named ?_
      intro w5 hw5
      have HK5 : Hid (Keeps (fun _ => False) wr w5) := Lib.hid (by rw [← hw5]; exact (Keeps.refl _ wr).alloc _)
      have hg5 : Blk w5 wr.heap.size #[.int .u64 F, .int .u64 L] 54 := by rw [← hw5]; exact Blk.new _ _ _
      have hbl : bb < wr.heap.size := Nat.lt_of_lt_of_le hbb HK3.out.size
      have p5 : w5.cell? ⟨bb, oo + j * 2, none⟩ = some (.int .u64 P) := by rw [← p0]; exact World.cell?_of_block (HK5.out.block bb hbl (fun h => h))
      have HG5 := Lib.hid hg5
      have hrb5 : wr.heap.size < w5.heap.size := hg5.lt
      have HFR5 : Hid (¬ wrS B wb a3 wr.heap.size) := Lib.hid (HW3.out.fresh (Nat.le_refl _))
      have HW5 := Lib.hid (HW3.out.same HK5.out)
      have HK15 : Hid (Keeps (wrS B wb a) w1 w5) := Lib.hid (Keeps.trans2 HK3.out HK5.out (fun _ _ h => False.elim h))
      have hB5 : B ≤ w5.heap.size := by omega
      clear hw5 hg5 c0 c1 p0
      generalize wr.heap.size = rb at *
      have HKd5 : Hid (Keeps (fun _ => False) w5 w5.drew) := Lib.hid (Keeps.refl _ _).drew
      have HWd5 := Lib.hid (HW5.out.same HKd5.out)
      have e1 : IntKind.u64.wrap (P - L) = P - L := by rw [IntKind.wrap_u64]; omega
      have e2 : IntKind.u64.wrap (P - L - 2) = P - L - 2 := by rw [IntKind.wrap_u64]; omega
      have e3 : IntKind.u64.wrap (L - F) = L - F := by rw [IntKind.wrap_u64]; omega
      refine wp_region_held (S := fun w' : World => w'.cell? ⟨bb, oo + j * 2, none⟩ = some (.int .u64 P) ∧ w'.cell? ⟨rb, 1, none⟩ = some (.int .u64 L) ∧ w'.cell? ⟨rb, 0, none⟩ = some (.int .u64 F)) (by kernel_rfl) ?_
      change wpAnyH _ _ _ _ _ _ _ _ (World.drew _)
      have hS : (fun w' : World => w'.cell? ⟨bb, oo + j * 2, none⟩ = some (.int .u64 P) ∧ w'.cell? ⟨rb, 1, none⟩ = some (.int .u64 L) ∧ w'.cell? ⟨rb, 0, none⟩ = some (.int .u64 F)) w5.drew := ⟨p5, HG5.out.cell 1, HG5.out.cell 0⟩
      refine tH (i := 0) (v := ?_) rfl ?_ hS ?_
      rotate_left
      ·intro wz ⟨_, _, _⟩; go_simp; try with_reducible rfl
      refine tH (i := 1) (v := ?_) rfl ?_ hS ?_
      rotate_left
      ·intro wz ⟨_, _, _⟩; go_simp; try with_reducible rfl
      refine tH (i := 2) (v := ?_) rfl ?_ hS ?_
      rotate_left
      ·intro wz ⟨_, _, _⟩; go_simp; try with_reducible rfl
      refine tH (i := 3) (v := ?_) rfl ?_ hS ?_
      rotate_left
      ·intro wz ⟨_, _, _⟩; go_simp; try with_reducible rfl
      refine tH (i := 4) (v := ?_) rfl ?_ hS ?_
      rotate_left
      ·intro wz ⟨_, _, _⟩; go_simp; try with_reducible rfl
      refine tH (i := 5) (v := ?_) rfl ?_ hS ?_
      rotate_left
      ·intro wz ⟨_, _, _⟩; go_simp; try with_reducible rfl
      refine tH (i := 6) (v := ?_) rfl ?_ hS ?_
      rotate_left
      ·intro wz ⟨_, _, _⟩; go_simp; try with_reducible rfl
      refine tH (i := 7) (v := ?_) rfl ?_ hS ?_
      rotate_left
      ·intro wz ⟨_, _, _⟩; go_simp; try with_reducible rfl
      refine tH (i := 8) (v := ?_) rfl ?_ hS ?_
      rotate_left
      ·intro wz ⟨_, _, _⟩; go_simp; try with_reducible rfl
      refine tH (i := 9) (v := ?_) rfl ?_ hS ?_
      rotate_left
      ·intro wz ⟨_, _, _⟩; go_simp; try with_reducible rfl
      refine tH (i := 10) (v := ?_) rfl ?_ hS ?_
      rotate_left
      ·intro wz ⟨_, _, _⟩; go_simp; try with_reducible rfl
      refine tH (i := 11) (v := ?_) rfl ?_ hS ?_
      rotate_left
      ·intro wz ⟨_, _, _⟩; go_simp; try with_reducible rfl
      refine tH (i := 12) (v := ?_) rfl ?_ hS ?_
      rotate_left
      ·intro wz ⟨_, _, _⟩; go_simp; try with_reducible rfl
      refine tH (i := 13) (v := ?_) rfl ?_ hS ?_
      rotate_left
      ·intro wz ⟨_, _, _⟩; go_simp; try with_reducible rfl
      refine tH (i := 14) (v := ?_) rfl ?_ hS ?_
      rotate_left
      ·intro wz ⟨_, _, _⟩; go_simp; try with_reducible rfl
      clear e1 e2 e3
      have hSa : (fun w' : World => w'.cell? ⟨bb, oo + j * 2, none⟩ = some (.int .u64 P) ∧ w'.cell? ⟨rb, 1, none⟩ = some (.int .u64 L) ∧ w'.cell? ⟨rb, 0, none⟩ = some (.int .u64 F)) (w5.drew.alloc (.cells #[.int .u64 (P - L - 2), .int .u64 (L - F)] 29 (0, 0))) := by
       have hk : Keeps (fun _ => False) w5 (w5.drew.alloc (.cells #[.int .u64 (P - L - 2), .int .u64 (L - F)] 29 (0, 0))) := HKd5.out.alloc _
       exact ⟨by rw [← p5]; exact World.cell?_of_block (hk.block bb (by omega) (fun h => h)), (hk.blk HG5.out (fun h => h)).cell 1, (hk.blk HG5.out (fun h => h)).cell 0⟩
      refine held_do (i := 15) (.slice (some ⟨w5.heap.size, 0, none⟩) 2 2) (w5.drew.alloc (.cells #[.int .u64 (P - L - 2), .int .u64 (L - F)] 29 (0, 0))) rfl (by kernel_rfl) (by kernel_rfl) ?_ hSa ?_
      ·go_simp; try with_reducible rfl
      refine held_callP (i := 16) 37 #[.pointer (some ⟨wb, 0, none⟩), .slice (some ⟨w5.heap.size, 0, none⟩) 2 2] rfl (by kernel_rfl) (by kernel_rfl) ?_ ?_
      ·go_simp; try with_reducible rfl
      refine (nums_new B wb a3 n3 c3 _ _ 2 [P - L - 2, L - F] w5.drew HWd5.out (Uv.two' w5.drew _ (P - L - 2) (L - F) ⟨by omega, by omega⟩ ⟨by omega, by omega⟩) (by omega) (by omega) hB5).mono ?_
      rintro e w6 ⟨hk0, hr⟩
      rw [numsO_yes HG1.out] at hr
      obtain ⟨rfl, a6, n6, c6, hw6, hn6⟩ := hr
      have hk56 : Keeps (wrS B wb a3) w5 w6 := HKd5.out.to.trans hk0
      have HW6 : Hid (Wr B w6 wb a6 n6 c6 (xs ++ varsE (ackN f.c.delay f.c.rs (j + 1)))) := Lib.hid (by rw [HST.out, varsE_append, ← List.append_assoc]; exact hw6)
      have HK6 : Hid (Keeps (wrS B wb a) w1 w6) := Lib.hid (wrS_trans HK15.out (near_to HN3.out (Nat.le_refl _)) hk56)
      have HN6 : Hid (Near B w1 a a6) := Lib.hid (wrS_near HN3.out HK15.out (near_to hn6 HKd5.out.size))
      have hln6 : n6 ≤ n + 40 + 16 * (j + 1) := by
       have h1 := hw6.len
       have h2 := HW3.out.len
       have h3 := numsO_len (numsO_yes (xs := xs ++ varsE (ackN f.c.delay f.c.rs j)) HG1.out)
       simp only [List.length_cons, List.length_nil] at h3
       omega
      have HB6 : Hid (Below B w w6) := Lib.hid (wrS_below HK6.out HB1.out hB1 HW.out.le)
      obtain ⟨bb', oo', hra', -, hcell⟩ := (HF.out w6 HB6.out).r.get (by omega)
      obtain ⟨rfl, rfl⟩ : bb = bb' ∧ oo = oo' := by rw [HRA.out] at hra'; simpa using hra'
      have hG6 := hk56.blk HG5.out HFR5.out
      refine .inl ⟨_, rfl, ⟨by have h := (hcell j (by omega)).1; rw [HPP.out] at h; exact h, hG6.cell 1, hG6.cell 0⟩, ?_⟩
      clear hk0 hk56 hw6 hn6 hS hSa p5 hcell hra' hG6
      refine wpAnyH_done (by kernel_rfl) ?_ _
      refine then_namedB fun b9 hb9 => ?_
      subst hb9
      obtain ⟨g, rfl⟩ : ∃ g, gk = g + 1 := ⟨gk - 1, by have := HJ.out; omega⟩
      go_wp2_with fail
      go_roundg g
      case measure => omega
      case rel => exact ⟨j + 1, a6, n6, c6, by go_num, by have := HJ.out; omega, HW6.out, HK6.out, HN6.out, hln6, by rw [HST.out, varsOK_append, HV3.out, HG1.out]; rfl⟩
     ·have hjn2 : j = f.rn - 1 := by have := HJ.out; omega
      have HX : Hid (ackN f.c.delay f.c.rs j = ackL f.c.delay f.c.rs) := Lib.hid (ackN_all _ _ _ (by have := HRL.out; omega))
      have hjI : ¬ ((j : Int) < (f.rn : Int) - 1) := by omega
      have HOKL : Hid (varsOK (ackL f.c.delay f.c.rs) = true) := Lib.hid (by rw [← HX.out]; exact HV3.out)
      clear hjn2 hjn
      go_wp2_with fail
      go_end0
      rw [HE8.out, numsO_yes HOKL.out, ← HX.out]
      exact ⟨Keeps.trans2 HKW.out HK3.out (fun _ _ h => h), rfl, a3, n3, c3, HW3.out, near_to HN3.out HKW.out.size⟩

end Go.Proofs.Ytgfkgmmigbpciaa
