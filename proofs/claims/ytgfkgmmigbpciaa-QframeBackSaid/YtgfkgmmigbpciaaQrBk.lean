/- The walk of QframeBack. -/
import Derived.Test.YtgfkgmmigbpciaaQrBa
import Derived.Deep.DeepCutAuto
namespace Go.Proofs.Ytgfkgmmigbpciaa
set_option linter.unusedSimpArgs false
set_option linter.unusedVariables false
open Go.RowKit Go.Deep

theorem list_last {α : Type} (L : List α) : L = [] ∨ ∃ K d, L = K ++ [d] := by
 rcases List.eq_nil_or_concat L with h | ⟨K, d, h⟩
 ·exact .inl h
 ·exact .inr ⟨K, d, by simpa using h⟩

set_option maxRecDepth 100000 in
set_option maxHeartbeats 12800000 in
theorem walkQframeBack (w : World) (v0 : Value) (h0 : Arg Try.prog w 23 v0) :
  Calls Try.prog 4 #[v0] w fun e w' => e = .returned (.bool true) ∧ Below w.heap.size w w' := by
 obtain ⟨la, ln, lc, l, rfl, hv⟩ := h0.qframes
 have HV := Lib.hid hv
 clear hv h0
 go_enter Try.func4, Try.ntmps4
 go_wp2_with fail
 refine (known_any w).mono ?_
 rintro e w1 ⟨rfl, hk1⟩
 have HK1 := Lib.hid hk1
 clear hk1
 go_wp2_with fail
 refine (light_any la ln lc l w1 (HV.out w1 HK1.out)).mono ?_
 rintro e w' ⟨rfl, rfl⟩
 cases hlt : lightB l with
 | false =>
  clear hlt
  go_wp2_with fail
  go_returns
  exact ⟨rfl, HK1.out⟩
 | true =>
 obtain ⟨hl10, hll⟩ := lightB_bd hlt
 have HLL : Hid (∀ f ∈ l, f.c.light = true) := Lib.hid hll
 have HLN : Hid (ln = l.length) := Lib.hid (HV.out w1 HK1.out).1
 have hln10 : ln ≤ 10 := by have := HLN.out; omega
 clear hlt hll
 by_cases hz : ln = 0
 ·have hd : ((ln : Int) == 0) = true := by simp [hz]
  have hd2 : decide (ln = 0) = true := by simp [hz]
  have hd3 : decide ((ln : Int) = 0) = true := by simp [hz]
  go_wp2_with fail
  go_returns
  exact ⟨rfl, HK1.out⟩
 have hd : ((ln : Int) == 0) = false := by simp [hz]
 have hd2 : decide (ln = 0) = false := by simp [hz]
 have hd3 : decide ((ln : Int) = 0) = false := by simp [hz]
 have HLZ : Hid (0 < ln) := Lib.hid (by omega)
 clear hz
 go_wp2_with fail
 clear hd hd2 hd3
 go_loopg [3, 4] ln (fun k v3 v4 wr => ∃ (i N : Nat) (al : Option Addr) (cl : Nat) (L : List Qf), v3 = .slice al N cl ∧ v4 = .int .i64 (i : Int) ∧ k + i = ln ∧ N = L.length ∧ N ≤ i ∧ (0 < i → L ≠ []) ∧ apart (L.map (·.c)) = true ∧ (∀ f ∈ L, OkQ i f.c) ∧ Qs w.heap.size wr al cl L ∧ Below w.heap.size w wr)
 case atStart => exact ⟨0, 0, none, 0, [], rfl, rfl, by omega, rfl, by omega, (fun h => absurd h (by omega)), rfl, (fun f hf => by cases hf), Qs.nil _ _, HK1.out⟩
 case round =>
  obtain ⟨i, N, al, cl, L, rfl, rfl, hki, hnl, hni, hl0, hap, hok, hqs, hkw⟩ := hrel
  have HKI := Lib.hid hki
  have HNL := Lib.hid hnl
  have HL0 := Lib.hid hl0
  have HAP0 := Lib.hid hap
  have HOK := Lib.hid hok
  have HQS := Lib.hid hqs
  have HKW := Lib.hid hkw
  clear hki hnl hl0 hap hok hqs hkw
  by_cases hin : i < ln
  ·obtain ⟨k, rfl⟩ : ∃ k, gk = k + 1 := ⟨gk - 1, by have := HKI.out; omega⟩
   have hix : i < l.length := by have := HLN.out; omega
   obtain ⟨⟨b, off, rfl, hbl, hcell⟩, hq⟩ := (HV.out wr HKW.out).2.2.2 i hix
   have HQI : Hid (∀ w', Below w.heap.size w w' → Qin w' l[i]) := Lib.hid (fun w' h => ((HV.out w' h).2.2.2 i hix).2)
   have HLI := Lib.hid (HLL.out _ (List.getElem_mem hix))
   clear hq
   generalize l[i] = f at *
   have p0 : wr.cell? ⟨b, off + i * 12 + 0, none⟩ = some (.int .u64 f.c.t) := hcell 0 _ rfl
   have p1 : wr.cell? ⟨b, off + i * 12 + 1, none⟩ = some (.int .u64 f.c.id) := hcell 1 _ rfl
   have p2 : wr.cell? ⟨b, off + i * 12 + 2, none⟩ = some (.int .u64 f.c.off) := hcell 2 _ rfl
   have p3 : wr.cell? ⟨b, off + i * 12 + 3, none⟩ = some (.bool f.c.fin) := hcell 3 _ rfl
   have p4 : wr.cell? ⟨b, off + i * 12 + 4, none⟩ = some (.int .u64 f.c.mx) := hcell 4 _ rfl
   have p5 : wr.cell? ⟨b, off + i * 12 + 5, none⟩ = some (.int .u64 f.c.code) := hcell 5 _ rfl
   have p6 : wr.cell? ⟨b, off + i * 12 + 6, none⟩ = some (.int .u64 f.c.delay) := hcell 6 _ rfl
   have p7 : wr.cell? ⟨b, off + i * 12 + 7, none⟩ = some (.slice f.ra f.rn f.rc) := hcell 7 _ rfl
   have p8 : wr.cell? ⟨b, off + i * 12 + 8, none⟩ = some (.slice f.a f.n f.cap) := hcell 8 _ rfl
   have p9 : wr.cell? ⟨b, off + i * 12 + 9, none⟩ = some (.bool f.c.uni) := hcell 9 _ rfl
   have p10 : wr.cell? ⟨b, off + i * 12 + 10, none⟩ = some (.bool f.c.app) := hcell 10 _ rfl
   have p11 : wr.cell? ⟨b, off + i * 12 + 11, none⟩ = some (.int .i64 f.c.N) := hcell 11 _ rfl
   simp only [Nat.add_zero] at p0
   clear hcell
   have hz0 : (0 : Int) ≤ (i : Int) := by omega
   have hz1 : (i : Int) < (ln : Int) := by omega
   go_wp2_with fail
   clear p0 p1 p2 p3 p4 p5 p6 p7 p8 p9 p10 p11
   refine (clean_any f wr (fun w' h => HQI.out w' (HKW.out.trans (h.mono HKW.out.size))) (light_small HLI.out)).mono ?_
   rintro e w4 ⟨hk4, g, rfl, hgc, hqn⟩
   have HOG : Hid (OkQ 1 g.c) := Lib.hid (by
    rw [hgc]
    exact clean_ok HLI.out (HQI.out w (Below.refl _ _)).wf (by rw [← hgc]; exact hqn.q.wf))
   have HQG := Lib.hid hqn
   have HK4 : Hid (Below w.heap.size w w4) := Lib.hid (HKW.out.trans (hk4.mono HKW.out.size))
   have HQ4 := Lib.hid (HQS.out.keep (Below.keeps hk4) (fun b hb => Or.inr hb))
   have HSZ4 : Hid (w.heap.size ≤ wr.heap.size ∧ wr.heap.size ≤ w4.heap.size) := Lib.hid ⟨HKW.out.size, hk4.size⟩
   clear hk4 hgc hqn
   unfold Qf.cs
   go_upto_region 10 with fail
   refine wp_named ?_
   intro w5 hw5
   have HA5 : Hid (Keeps (fun _ => False) w4 w5) := Lib.hid (by rw [← hw5]; exact (Keeps.refl _ _).alloc _)
   have HG5 : Hid (Blk w5 w4.heap.size g.cs 32) := Lib.hid (by rw [← hw5]; exact Blk.new _ _ _)
   have HK5 : Hid (Below w.heap.size w w5) := Lib.hid (Keeps.below HK4.out HA5.out HK4.out.size (fun _ h => False.elim h))
   have HQ5 := Lib.hid (HQ4.out.keep HA5.out (fun _ h => False.elim h))
   clear hw5
   have g0 : w5.cell? ⟨w4.heap.size, 0, none⟩ = some (.int .u64 g.c.t) := HG5.out.cell 0
   by_cases t0 : g.c.t = 0
   rotate_left
   ·have hd1 : (g.c.t == 0) = false := by simp [t0]
    have hd2 : decide (g.c.t = 0) = false := by simp [t0]
    have HAP : Hid (apart ((L ++ [g]).map (·.c)) = true) := Lib.hid (by
     have h := HAP0.out
     rcases list_last L with rfl | ⟨K, d, rfl⟩
     ·rfl
     ·simp only [List.map_append, List.map_cons, List.map_nil] at h ⊢
      exact apart_snoc _ _ _ h (by unfold two0; rw [hd2, Bool.and_false]))
    clear t0
    go_upto_region 13 with fail
    clear hd1 hd2 g0
    have hG5 := HG5.out
    unfold Qf.cs at hG5
    obtain ⟨x0, x1, x2, x3, x4, x5, x6, x7, x8, x9, x10, x11⟩ := q12_cells hG5
    clear hG5
    obtain ⟨inf, hi, hz, hs1, hs2⟩ := info_parts infoQ
    have HI := Lib.hid hi
    have HZ := Lib.hid hz
    have HS1 := Lib.hid hs1
    have HS2 := Lib.hid hs2
    clear hi hz hs1 hs2
    go_wp2_with (at_builtin; refine halt ?_)
    clear x0 x1 x2 x3 x4 x5 x6 x7 x8 x9 x10 x11
    have hka : Keeps (fun _ => False) w5 (w5.alloc (.cells g.cs 32 (0, 0))) := (Keeps.refl _ _).alloc _
    have HQA := Lib.hid (HQ5.out.keep hka (fun _ h => False.elim h))
    have HNL2 := Lib.hid HNL.out
    refine Halted.go (wpList_app _ rfl _ _ 23 23 rfl w.heap.size 32 inf _ 12 120 Try.underlying23 HI.out HZ.out HS1.out HS2.out rfl al N cl (qfs L) rfl (.inl (by have h := HQA.out.1; rwa [← HNL.out] at h)) (.slice (some ⟨w5.heap.size, 0, none⟩) 1 1) rfl 1 g.cs.toList (src_qf (Blk.new w5 g.cs 32)) (by simp only [maxLen]; omega) (by omega) (Nat.le_trans HK5.out.size hka.size) ?_)
    intro a7 c7 w7 _ hk7 hn7 hown7 _
    have HQ7 : Hid (Qs w.heap.size w7 a7 c7 (L ++ [g])) := Lib.hid (Qs.snoc HQA.out hk7 hn7 (by have h := hown7 (by omega); rwa [HNL.out] at h) (((HQG.out.mono HSZ4.out.1).keep HA5.out (fun _ h => False.elim h)).keep hka (fun _ h => False.elim h))
     (fun b hb e => by have h1 := (HQG.out.hb b hb).1; have h2 := (own_geQ HQS.out.1 b e).2; omega)
     (fun b hb e => by have h1 := (HQG.out.hr b hb).1; have h2 := (own_geQ HQS.out.1 b e).2; omega))
    have HK7 : Hid (Below w.heap.size w w7) := Lib.hid (Keeps.below HK5.out (hka.to.trans hk7) HK5.out.size (fun b hb => hb.1))
    clear hk7 hn7 hown7 hka
    go_wp2_with fail
    go_roundg k
    case measure => omega
    case rel =>
     exact ⟨i + 1, N + 1, a7, c7, L ++ [g], rfl, by go_num, by have := HKI.out; omega, by have := HNL.out; simp; omega, by omega, by intro _; simp, HAP.out, fun u hu => by
      rcases List.mem_append.1 hu with h3 | h3
      ·exact (HOK.out u h3).mono (by omega)
      ·simp only [List.mem_cons, List.not_mem_nil, or_false] at h3; subst h3; exact HOG.out.mono (by omega), HQ7.out, HK7.out⟩

   have hd1 : (g.c.t == 0) = true := by simp [t0]
   have hd2 : decide (g.c.t = 0) = true := by simp [t0]
   have HT0 := Lib.hid t0
   rcases list_last L with hL | ⟨K, d, hL⟩
   ·have hN0 : N = 0 := by rw [HNL.out, hL]; rfl
    have hd3 : decide ((0 : Int) < (N : Int)) = false := by simp; omega
    have hd4 : decide (0 < N) = false := by simp; omega
    have HAP : Hid (apart ((L ++ [g]).map (·.c)) = true) := Lib.hid (by rw [hL]; rfl)
    clear hN0 hL t0
    go_upto_region 13 with fail
    clear hd1 hd2 g0 hd3 hd4
    have hG5 := HG5.out
    unfold Qf.cs at hG5
    obtain ⟨x0, x1, x2, x3, x4, x5, x6, x7, x8, x9, x10, x11⟩ := q12_cells hG5
    clear hG5
    obtain ⟨inf, hi, hz, hs1, hs2⟩ := info_parts infoQ
    have HI := Lib.hid hi
    have HZ := Lib.hid hz
    have HS1 := Lib.hid hs1
    have HS2 := Lib.hid hs2
    clear hi hz hs1 hs2
    go_wp2_with (at_builtin; refine halt ?_)
    clear x0 x1 x2 x3 x4 x5 x6 x7 x8 x9 x10 x11
    have hka : Keeps (fun _ => False) w5 (w5.alloc (.cells g.cs 32 (0, 0))) := (Keeps.refl _ _).alloc _
    have HQA := Lib.hid (HQ5.out.keep hka (fun _ h => False.elim h))
    have HNL2 := Lib.hid HNL.out
    refine Halted.go (wpList_app _ rfl _ _ 23 23 rfl w.heap.size 32 inf _ 12 120 Try.underlying23 HI.out HZ.out HS1.out HS2.out rfl al N cl (qfs L) rfl (.inl (by have h := HQA.out.1; rwa [← HNL.out] at h)) (.slice (some ⟨w5.heap.size, 0, none⟩) 1 1) rfl 1 g.cs.toList (src_qf (Blk.new w5 g.cs 32)) (by simp only [maxLen]; omega) (by omega) (Nat.le_trans HK5.out.size hka.size) ?_)
    intro a7 c7 w7 _ hk7 hn7 hown7 _
    have HQ7 : Hid (Qs w.heap.size w7 a7 c7 (L ++ [g])) := Lib.hid (Qs.snoc HQA.out hk7 hn7 (by have h := hown7 (by omega); rwa [HNL.out] at h) (((HQG.out.mono HSZ4.out.1).keep HA5.out (fun _ h => False.elim h)).keep hka (fun _ h => False.elim h))
     (fun b hb e => by have h1 := (HQG.out.hb b hb).1; have h2 := (own_geQ HQS.out.1 b e).2; omega)
     (fun b hb e => by have h1 := (HQG.out.hr b hb).1; have h2 := (own_geQ HQS.out.1 b e).2; omega))
    have HK7 : Hid (Below w.heap.size w w7) := Lib.hid (Keeps.below HK5.out (hka.to.trans hk7) HK5.out.size (fun b hb => hb.1))
    clear hk7 hn7 hown7 hka
    go_wp2_with fail
    go_roundg k
    case measure => omega
    case rel =>
     exact ⟨i + 1, N + 1, a7, c7, L ++ [g], rfl, by go_num, by have := HKI.out; omega, by have := HNL.out; simp; omega, by omega, by intro _; simp, HAP.out, fun u hu => by
      rcases List.mem_append.1 hu with h3 | h3
      ·exact (HOK.out u h3).mono (by omega)
      ·simp only [List.mem_cons, List.not_mem_nil, or_false] at h3; subst h3; exact HOG.out.mono (by omega), HQ7.out, HK7.out⟩

   obtain ⟨M, hM⟩ : ∃ M, K.length = M := ⟨_, rfl⟩
   have hNM : N = M + 1 := by rw [HNL.out, hL, List.length_append, hM]; rfl
   have hd3 : decide ((0 : Int) < (N : Int)) = true := by simp; omega
   have hd4 : decide (0 < N) = true := by simp; omega
   have hi0 : (0 : Int) ≤ (N : Int) - 1 := by omega
   have hi1 : (N : Int) - 1 < (N : Int) := by omega
   have hi2 : ((N : Int) - 1).toNat = M := by omega
   have hi3 : (1 : Int) ≤ (N : Int) := by omega
   have hwi : IntKind.i64.wrap ((N : Int) - 1) = (N : Int) - 1 := by rw [IntKind.wrap_i64]; omega
   obtain ⟨b2, rfl⟩ : ∃ b2, al = some ⟨b2, 0, none⟩ := by
    rcases HQS.out.1.2 with ⟨hv, h0⟩ | ⟨b2, cap', cur, hv, _⟩
    ·have := HNL.out; omega
    ·cases hv; exact ⟨b2, rfl⟩
   have hcells : ∀ j, j < 12 → w5.cell? ⟨b2, M * 12 + j, none⟩ = d.cs[j]? := by
    intro j hj
    have hget : (qfs L)[M * 12 + j]? = d.cs[j]? := by
     rw [qfs_get L M (by rw [← HNL.out]; omega) j hj]
     simp only [hL]
     rw [List.getElem_append_right (by omega)]
     simp [hM]
    have hsome : ∃ v, d.cs[j]? = some v := ⟨_, Array.getElem?_eq_getElem (by rw [Qf.size]; exact hj)⟩
    obtain ⟨v, hv⟩ := hsome
    have h := HQ5.out.1.cells (g := b2) rfl (M * 12 + j) v (by rw [hget, hv])
    rw [hv]
    rwa [Go.WideShapes.add_plain, Nat.zero_add] at h
   have e0 : w5.cell? ⟨b2, M * 12, none⟩ = some (.int .u64 d.c.t) := hcells 0 (by omega)
   have e11 : w5.cell? ⟨b2, M * 12 + 11, none⟩ = some (.int .i64 d.c.N) := hcells 11 (by omega)
   have f11 : w5.frozen? ⟨b2, M * 12 + 11, none⟩ = false := HQ5.out.1.frozenAt _
   have HB2 : Hid (w.heap.size ≤ b2) := Lib.hid (own_geQ HQS.out.1 b2 rfl).1
   have HL := Lib.hid hL
   have HM := Lib.hid hM
   clear hcells
   by_cases s0 : d.c.t = 0
   rotate_left
   ·have hd5 : (d.c.t == 0) = false := by simp [s0]
    have hd6 : decide (d.c.t = 0) = false := by simp [s0]
    have HAP : Hid (apart ((L ++ [g]).map (·.c)) = true) := Lib.hid (by
     have h := HAP0.out
     rw [HL.out] at h ⊢
     simp only [List.map_append, List.map_cons, List.map_nil] at h ⊢
     exact apart_snoc _ _ _ h (by unfold two0; rw [hd6, Bool.false_and]))
    clear s0 t0 hL hM hNM
    go_upto_region 13 with fail
    clear hd1 hd2 g0 hd3 hd4 hi0 hi1 hi2 hi3 hwi e0 e11 f11 hd5 hd6
    have hG5 := HG5.out
    unfold Qf.cs at hG5
    obtain ⟨x0, x1, x2, x3, x4, x5, x6, x7, x8, x9, x10, x11⟩ := q12_cells hG5
    clear hG5
    obtain ⟨inf, hi, hz, hs1, hs2⟩ := info_parts infoQ
    have HI := Lib.hid hi
    have HZ := Lib.hid hz
    have HS1 := Lib.hid hs1
    have HS2 := Lib.hid hs2
    clear hi hz hs1 hs2
    go_wp2_with (at_builtin; refine halt ?_)
    clear x0 x1 x2 x3 x4 x5 x6 x7 x8 x9 x10 x11
    have hka : Keeps (fun _ => False) w5 (w5.alloc (.cells g.cs 32 (0, 0))) := (Keeps.refl _ _).alloc _
    have HQA := Lib.hid (HQ5.out.keep hka (fun _ h => False.elim h))
    have HNL2 := Lib.hid HNL.out
    refine Halted.go (wpList_app _ rfl _ _ 23 23 rfl w.heap.size 32 inf _ 12 120 Try.underlying23 HI.out HZ.out HS1.out HS2.out rfl (some ⟨b2, 0, none⟩) N cl (qfs L) rfl (.inl (by have h := HQA.out.1; rwa [← HNL.out] at h)) (.slice (some ⟨w5.heap.size, 0, none⟩) 1 1) rfl 1 g.cs.toList (src_qf (Blk.new w5 g.cs 32)) (by simp only [maxLen]; omega) (by omega) (Nat.le_trans HK5.out.size hka.size) ?_)
    intro a7 c7 w7 _ hk7 hn7 hown7 _
    have HQ7 : Hid (Qs w.heap.size w7 a7 c7 (L ++ [g])) := Lib.hid (Qs.snoc HQA.out hk7 hn7 (by have h := hown7 (by omega); rwa [HNL.out] at h) (((HQG.out.mono HSZ4.out.1).keep HA5.out (fun _ h => False.elim h)).keep hka (fun _ h => False.elim h))
     (fun b hb e => by have h1 := (HQG.out.hb b hb).1; have h2 := (own_geQ HQS.out.1 b e).2; omega)
     (fun b hb e => by have h1 := (HQG.out.hr b hb).1; have h2 := (own_geQ HQS.out.1 b e).2; omega))
    have HK7 : Hid (Below w.heap.size w w7) := Lib.hid (Keeps.below HK5.out (hka.to.trans hk7) HK5.out.size (fun b hb => hb.1))
    clear hk7 hn7 hown7 hka
    go_wp2_with fail
    go_roundg k
    case measure => omega
    case rel =>
     exact ⟨i + 1, N + 1, a7, c7, L ++ [g], rfl, by go_num, by have := HKI.out; omega, by have := HNL.out; simp; omega, by omega, by intro _; simp, HAP.out, fun u hu => by
      rcases List.mem_append.1 hu with h3 | h3
      ·exact (HOK.out u h3).mono (by omega)
      ·simp only [List.mem_cons, List.not_mem_nil, or_false] at h3; subst h3; exact HOG.out.mono (by omega), HQ7.out, HK7.out⟩

   have hd5 : (d.c.t == 0) = true := by simp [s0]
   have hd6 : decide (d.c.t = 0) = true := by simp [s0]
   have HOD : Hid (OkQ i d.c) := Lib.hid (HOK.out d (by rw [hL]; simp))
   have HS0 := Lib.hid s0
   have g11 : w5.cell? ⟨w4.heap.size, 11, none⟩ = some (.int .i64 g.c.N) := HG5.out.cell 11
   have hb0 := HOD.out.p0 s0
   have hb1 := HOD.out.p1 s0
   have hb2 := HOG.out.p0 HT0.out
   have hb3 := HOG.out.p1 HT0.out
   have hws : IntKind.i64.wrap (d.c.N + g.c.N) = d.c.N + g.c.N := by rw [IntKind.wrap_i64]; omega
   have HAP : Hid (apart ((K ++ [(⟨addN d.c (d.c.N + g.c.N), d.ra, d.rn, d.rc, d.a, d.n, d.cap⟩ : Qf)]).map (·.c)) = true) := Lib.hid (by
    have h := HAP0.out
    rw [HL.out] at h
    simp only [List.map_append, List.map_cons, List.map_nil] at h ⊢
    exact apart_last _ _ _ h rfl)
   have HOA : Hid (OkQ (i + 1) (addN d.c (d.c.N + g.c.N))) := Lib.hid (HOD.out.add HOG.out HS0.out HT0.out (by omega))
   have HQN : Hid (Qs w.heap.size (w5.drew.setCell ⟨b2, M * 12 + 11, none⟩ (.int .i64 (d.c.N + g.c.N))) (some ⟨b2, 0, none⟩) cl (K ++ [(⟨addN d.c (d.c.N + g.c.N), d.ra, d.rn, d.rc, d.a, d.n, d.cap⟩ : Qf)])) := Lib.hid (by
    have h := HQ5.out.keep ((Keeps.refl (fun _ => False) w5).drew) (fun _ h => False.elim h)
    rw [HL.out] at h
    have h2 := h.addN (d.c.N + g.c.N) ⟨by omega, by omega⟩
    rwa [HM.out] at h2)
   have HK6 : Hid (Below w.heap.size w (w5.drew.setCell ⟨b2, M * 12 + 11, none⟩ (.int .i64 (d.c.N + g.c.N)))) := Lib.hid (HK5.out.drew.setCell (p := ⟨b2, M * 12 + 11, none⟩) HB2.out _)
   have HN1 : Hid (N = (K ++ [(⟨addN d.c (d.c.N + g.c.N), d.ra, d.rn, d.rc, d.a, d.n, d.cap⟩ : Qf)]).length) := Lib.hid (by rw [List.length_append, HM.out]; exact hNM)
   clear s0 t0 hL hM hNM
   go_upto_region 12 with fail
   refine z_begin (fun w' : World => w'.cell? ⟨b2, M * 12 + 11, none⟩ = some (.int .i64 d.c.N) ∧ w'.cell? ⟨w4.heap.size, 11, none⟩ = some (.int .i64 g.c.N)) 11 (by kernel_rfl) ?_
   have hS : (fun w' : World => w'.cell? ⟨b2, M * 12 + 11, none⟩ = some (.int .i64 d.c.N) ∧ w'.cell? ⟨w4.heap.size, 11, none⟩ = some (.int .i64 g.c.N)) w5.drew := ⟨e11, g11⟩
   refine z_take (i := 0) (v := ?_) rfl (by kernel_rfl) (by kernel_rfl) (by kernel_rfl) (by kernel_rfl) (fun _ _ _ h => h) (Or.inl ⟨by kernel_rfl, ?_⟩) hS ?_
   rotate_left
   ·intro wz ⟨_, _⟩; go_simp; try with_reducible rfl
   refine z_take (i := 1) (v := ?_) rfl (by kernel_rfl) (by kernel_rfl) (by kernel_rfl) (by kernel_rfl) (fun _ _ _ h => h) (Or.inl ⟨by kernel_rfl, ?_⟩) hS ?_
   rotate_left
   ·intro wz ⟨_, _⟩; go_simp; try with_reducible rfl
   refine z_take (i := 2) (v := .int .i64 ((N : Int) - 1)) rfl (by kernel_rfl) (by kernel_rfl) (by kernel_rfl) (by kernel_rfl) (fun _ _ _ h => h) (Or.inl ⟨by kernel_rfl, ?_⟩) hS ?_
   ·intro wz ⟨_, _⟩; go_simp; try rw [hwi]; try with_reducible rfl
   refine z_take (i := 3) (v := ?_) rfl (by kernel_rfl) (by kernel_rfl) (by kernel_rfl) (by kernel_rfl) (fun _ _ _ h => h) (Or.inl ⟨by kernel_rfl, ?_⟩) hS ?_
   rotate_left
   ·intro wz ⟨_, _⟩; go_simp; try with_reducible rfl
   refine z_take (i := 4) (v := ?_) rfl (by kernel_rfl) (by kernel_rfl) (by kernel_rfl) (by kernel_rfl) (fun _ _ _ h => h) (Or.inl ⟨by kernel_rfl, ?_⟩) hS ?_
   rotate_left
   ·intro wz ⟨_, _⟩; go_simp; try with_reducible rfl
   refine z_take (i := 5) (v := .int .i64 d.c.N) rfl (by kernel_rfl) (by kernel_rfl) (by kernel_rfl) (by kernel_rfl) (fun _ _ _ h => h) (Or.inl ⟨by kernel_rfl, ?_⟩) hS ?_
   ·intro wz ⟨_, _⟩; go_simp; try with_reducible rfl
   refine z_take (i := 6) (v := ?_) rfl (by kernel_rfl) (by kernel_rfl) (by kernel_rfl) (by kernel_rfl) (fun _ _ _ h => h) (Or.inl ⟨by kernel_rfl, ?_⟩) hS ?_
   rotate_left
   ·intro wz ⟨_, _⟩; go_simp; try with_reducible rfl
   refine z_take (i := 7) (v := .int .i64 g.c.N) rfl (by kernel_rfl) (by kernel_rfl) (by kernel_rfl) (by kernel_rfl) (fun _ _ _ h => h) (Or.inl ⟨by kernel_rfl, ?_⟩) hS ?_
   ·intro wz ⟨_, _⟩; go_simp; try with_reducible rfl
   refine z_take (i := 8) (v := .int .i64 (d.c.N + g.c.N)) rfl (by kernel_rfl) (by kernel_rfl) (by kernel_rfl) (by kernel_rfl) (fun _ _ _ h => h) (Or.inl ⟨by kernel_rfl, ?_⟩) hS ?_
   ·intro wz ⟨_, _⟩; go_simp; try rw [hws]; try with_reducible rfl
   refine z_do (i := 9) (.pointer (some ⟨b2, M * 12, none⟩)) w5.drew rfl (by kernel_rfl) (by kernel_rfl) ?_ hS ?_
   ·go_simp; try with_reducible rfl
   refine z_take (i := 10) (v := ?_) rfl (by kernel_rfl) (by kernel_rfl) (by kernel_rfl) (by kernel_rfl) (fun _ _ _ h => h) (Or.inl ⟨by kernel_rfl, ?_⟩) hS ?_
   rotate_left
   ·intro wz ⟨_, _⟩; go_simp; try with_reducible rfl
   refine z_last (w5.drew.setCell ⟨b2, M * 12 + 11, none⟩ (.int .i64 (d.c.N + g.c.N))) rfl (by kernel_rfl) (by kernel_rfl) ?_ (by kernel_rfl) ?_
   ·go_simp; try with_reducible rfl
   clear hS hd1 hd2 g0 hd3 hd4 hi0 hi1 hi2 hi3 hwi e0 e11 f11 hd5 hd6 g11 hb0 hb1 hb2 hb3 hws
   refine thenX_named ?_
   intro w6 hw6
   have HK6b : Hid (Below w.heap.size w w6) := Lib.hid (by rw [← hw6]; exact HK6.out)
   have HQNb : Hid (Qs w.heap.size w6 (some ⟨b2, 0, none⟩) cl (K ++ [(⟨addN d.c (d.c.N + g.c.N), d.ra, d.rn, d.rc, d.a, d.n, d.cap⟩ : Qf)])) := Lib.hid (by rw [← hw6]; exact HQN.out)
   clear hw6
   go_wp2_with fail
   go_roundg k
   case measure => omega
   case rel =>
    exact ⟨i + 1, N, some ⟨b2, 0, none⟩, cl, K ++ [(⟨addN d.c (d.c.N + g.c.N), d.ra, d.rn, d.rc, d.a, d.n, d.cap⟩ : Qf)], rfl, by go_num, by have := HKI.out; omega, HN1.out, by omega, by intro _; simp, HAP.out, fun u hu => by
     rcases List.mem_append.1 hu with h3 | h3
     ·exact (HOK.out u (by rw [HL.out]; exact List.mem_append_left _ h3)).mono (by omega)
     ·simp only [List.mem_cons, List.not_mem_nil, or_false] at h3; subst h3; exact HOA.out, HQNb.out, HK6b.out⟩
  ·have hi2 : i = ln := by have := HKI.out; omega
   have hlt1 : decide ((i : Int) < (ln : Int)) = false := by simp; omega
   have hlt2 : decide (i < ln) = false := by simp; omega
   obtain ⟨zs, hen, hde⟩ := back_law (W := L.map (·.c)) (k := i) (by
    intro h
    exact HL0.out (by have := HLZ.out; omega) (by simpa using h)) HAP0.out (fun c hc => by
    obtain ⟨f, hf, rfl⟩ := List.mem_map.1 hc
    exact HOK.out f hf)
   have HSM : Hid (∀ f ∈ L, f.c.Small) := Lib.hid (fun f hf => (HOK.out f hf).s)
   have HZL : Hid (zs.length ≤ 20000 * L.length) := Lib.hid (by
    have h := encsQ_len (L.map (·.c)) zs (fun c hc => by
     obtain ⟨f, hf, rfl⟩ := List.mem_map.1 hc
     exact HSM.out f hf) hen
    rwa [List.length_map] at h)
   have HEN : Hid (encsO [] L = some zs) := Lib.hid (by unfold encsO; rw [hen]; rfl)
   have HDE := Lib.hid hde
   have hN10 : N ≤ 10 := by omega
   clear hen hde hi2
   go_wp2_with fail
   refine (qwrite_any none 0 0 [] al N cl L wr (By.nil _) (fun w' h => by
    have h2 := (HQS.out.keep (Below.keeps h) (fun b hb => Or.inr hb)).qv
    rwa [← HNL.out] at h2) HSM.out (by omega) (by have := HNL.out; omega)).mono ?_
   rintro e w7 ⟨hk7, hr7⟩
   rw [HEN.out] at hr7
   obtain ⟨a7, n7, c7, rfl, ho7⟩ := hr7
   have HO7 := Lib.hid ho7
   have HK7 : Hid (Below w.heap.size w w7) := Lib.hid (HKW.out.trans (hk7.mono HKW.out.size))
   have HQ7 := Lib.hid (HQS.out.keep (Below.keeps hk7) (fun b hb => Or.inr hb))
   have hn7 : n7 ≤ 200000 := by have h1 := ho7.1; have h2 := HZL.out; have h3 := HNL.out; omega
   clear hk7 ho7
   go_wp2_with fail
   refine (qall_any a7 n7 c7 zs w7 HO7.out.by (by omega) (fun b hb => (HO7.out.ge b hb).2)).mono ?_
   rintro e w9 ⟨hk9, hr9⟩
   rw [HDE.out] at hr9
   obtain ⟨a9, c9, l9, hl9, rfl, hq9⟩ := hr9
   have HL9 := Lib.hid hl9
   have HQ9 := Lib.hid hq9
   have HK9 : Hid (Below w.heap.size w w9) := Lib.hid (HK7.out.trans (hk9.mono HK7.out.size))
   have HQ79 := Lib.hid (HQ7.out.keep (Below.keeps hk9) (fun b hb => Or.inr hb))
   clear hk9 hl9 hq9
   go_wp2_with fail
   refine (qframes_eq a9 l9.length c9 al N cl l9 L w9 (fun w' h => (HQ9.out.keep h (fun _ h => False.elim h)).qv) (fun w' h => by
    have h2 := (HQ79.out.keep h (fun _ h => False.elim h)).qv
    rwa [← HNL.out] at h2) HL9.out (fun f hf => by
    have h1 : f.c ∈ L.map (·.c) := by rw [← HL9.out]; exact List.mem_map_of_mem hf
    obtain ⟨u, hu, hue⟩ := List.mem_map.1 h1
    have h2 := (HSM.out u hu).r
    rw [hue] at h2
    omega) (by
    have h1 := congrArg List.length HL9.out
    rw [List.length_map, List.length_map] at h1
    have := HNL.out
    omega)).mono ?_
   rintro e w10 ⟨rfl, hk10⟩
   have HK10 : Hid (Below w.heap.size w w10) := Lib.hid (Keeps.below HK9.out hk10 HK9.out.size (fun _ h => False.elim h))
   clear hk10
   go_wp2_with fail
   go_returns
   exact ⟨rfl, HK10.out⟩

end Go.Proofs.Ytgfkgmmigbpciaa
