import Derived.Test.YtgfkgmmigbpciaaQfQ
import Derived.Test.YtgfkgmmigbpciaaQfS
import Derived.BigQuiet
/- One and Frames of the reference. -/
namespace Go.Proofs.Ytgfkgmmigbpciaa
set_option linter.unusedSimpArgs false
set_option linter.unusedVariables false
open Go.RowKit Go.Deep

set_option maxRecDepth 100000 in
set_option maxHeartbeats 3200000 in
theorem one_2 (B : Nat) (a : Option Addr) (n c : Nat) (xs : List UInt8) (f : Qf) (w : World) (hd : Sb B w a n c xs) (hf : ∀ w', Below B w w' → Qin w' f) (ht : f.c.t = 2) (hn : n ≤ 10000000) (hn8 : f.n ≤ 1000000) (hB : B ≤ w.heap.size) :
  Calls Try.prog 25 #[.slice a n c, .agg f.cs] w (OneP B a (encO xs f.c) w) := by
 have HD := Lib.hid hd
 have HF := Lib.hid hf
 have HWF := Lib.hid (hf w (Below.refl _ _)).wf
 have HXL := Lib.hid (hf w (Below.refl _ _)).b.1
 have HK0 : Hid (Keeps (fun _ => False) w (w.alloc (.cells f.cs 32 (0, 0)))) := Lib.hid ((Keeps.refl _ w).alloc _)
 have HL1 := Lib.hid (Blk.new w f.cs 32)
 clear hd hf
 have HT := Lib.hid ht
 have e0 : (f.c.t == 0) = false := by simp [ht]
 have e1 : (f.c.t == 1) = false := by simp [ht]
 have e30 : (f.c.t == 30) = false := by simp [ht]
 have e2 : (f.c.t == 2) = true := by simp [ht]
 have HPL := Lib.hid (plan_2 ht)
 clear ht
 unfold Qf.cs at HK0 HL1 ⊢
 have HD1 := Lib.hid (HD.out.same HK0.out)
 go_enter Try.func25, Try.ntmps25
 go_upto_region 1 with fail
 refine wp_named ?_
 intro w1 hw1
 rw [hw1] at HK0 HL1 HD1
 have hs1 : w.heap.size ≤ w1.heap.size := HK0.out.size
 have HFR : Hid (¬ mine B a w.heap.size) := Lib.hid (HD.out.fresh (Nat.le_refl _))
 have HB1 : Hid (Below B w w1) := Lib.hid (Keeps.below (Below.refl B w) HK0.out hB (fun _ h => False.elim h))
 clear hw1
 generalize w.heap.size = fb at *
 have hB1 : B ≤ w1.heap.size := by omega
 have hx8 : IntKind.u64.wrap (f.n : Int) = (f.n : Int) := by rw [IntKind.wrap_u64]; omega
 have q8 : w1.cell? ⟨fb, 8, none⟩ = some (.slice f.a f.n f.cap) := HL1.out.cell 8
 have q0 : w1.cell? ⟨fb, 0, none⟩ = some (.int .u64 f.c.t) := HL1.out.cell 0
 have q1 : w1.cell? ⟨fb, 1, none⟩ = some (.int .u64 f.c.id) := HL1.out.cell 1
 have q2 : w1.cell? ⟨fb, 2, none⟩ = some (.int .u64 f.c.off) := HL1.out.cell 2
 have q3 : w1.cell? ⟨fb, 3, none⟩ = some (.bool f.c.fin) := HL1.out.cell 3
 have q4 : w1.cell? ⟨fb, 4, none⟩ = some (.int .u64 f.c.mx) := HL1.out.cell 4
 have q5 : w1.cell? ⟨fb, 5, none⟩ = some (.int .u64 f.c.code) := HL1.out.cell 5
 have q6 : w1.cell? ⟨fb, 6, none⟩ = some (.int .u64 f.c.delay) := HL1.out.cell 6
 have q7 : w1.cell? ⟨fb, 7, none⟩ = some (.slice f.ra f.rn f.rc) := HL1.out.cell 7
 have q9 : w1.cell? ⟨fb, 9, none⟩ = some (.bool f.c.uni) := HL1.out.cell 9
 have q10 : w1.cell? ⟨fb, 10, none⟩ = some (.bool f.c.app) := HL1.out.cell 10
 have q11 : w1.cell? ⟨fb, 11, none⟩ = some (.int .i64 f.c.N) := HL1.out.cell 11
 go_wp2_with fail
 clear q0 q1 q2 q3 q4 q5 q6 q7 q8 q9 q10 q11
 refine (rack_any B a n c xs f w1 HD1.out (fun w' h => HF.out w' (HB1.out.trans h)) HT.out (by omega) hn8 hB1).mono ?_
 rintro e w9 ⟨hk9, hr⟩
 have HK9 := Lib.hid (HK0.out.to.trans hk9)
 cases hen : encO xs f.c with
 | none =>
  rw [hen] at hr
  have hr' : e = .returned (.tuple #[.slice none 0 0, .bool false]) := hr
  subst hr'
  have HEN := Lib.hid hen
  clear hen hr hk9
  go_wp2_with fail
  go_returns
  refine ⟨HK9.out, ?_⟩
  rw [HEN.out]
  rfl
 | some ys =>
  rw [hen] at hr
  obtain ⟨a9, n9, c9, rfl, hs9, hn9⟩ := hr
  have HN9 := Lib.hid (near_to hn9 HK0.out.size)
  have HS9 := Lib.hid hs9
  have HEN := Lib.hid hen
  clear hen hk9 hn9 hs9
  go_wp2_with fail
  go_returns
  refine ⟨HK9.out, ?_⟩
  rw [HEN.out]
  exact ⟨_, _, _, rfl, HS9.out, HN9.out⟩

theorem one_any (B : Nat) (a : Option Addr) (n c : Nat) (xs : List UInt8) (f : Qf) (w : World) (hd : Sb B w a n c xs) (hf : ∀ w', Below B w w' → Qin w' f) (hN : f.c.N ≤ 100000) (hn : n ≤ 10000000) (hn8 : f.n ≤ 1000000) (hB : B ≤ w.heap.size) :
  Calls Try.prog 25 #[.slice a n c, .agg f.cs] w (OneP B a (encO xs f.c) w) := by
 by_cases h0 : f.c.t = 0
 ·exact one_0 B a n c xs f w hd hf h0 hN hn hn8 hB
 by_cases h1 : f.c.t = 1
 ·exact one_1 B a n c xs f w hd hf h1 hn hn8 hB
 by_cases h30 : f.c.t = 30
 ·exact one_30 B a n c xs f w hd hf h30 hn hn8 hB
 by_cases h2 : f.c.t = 2
 ·exact one_2 B a n c xs f w hd hf h2 hn hn8 hB
 by_cases h4 : f.c.t = 4
 ·exact one_4 B a n c xs f w hd hf h4 hn hn8 hB
 by_cases h5 : f.c.t = 5
 ·exact one_5 B a n c xs f w hd hf h5 hn hn8 hB
 by_cases h6 : f.c.t = 6
 ·exact one_6 B a n c xs f w hd hf h6 hn hn8 hB
 by_cases h7 : f.c.t = 7
 ·exact one_7 B a n c xs f w hd hf h7 hn hn8 hB
 by_cases h8 : f.c.t = 8
 ·exact one_8 B a n c xs f w hd hf h8 hn hn8 hB
 by_cases h16 : f.c.t = 16
 ·exact one_16 B a n c xs f w hd hf h16 hn hn8 hB
 by_cases h20 : f.c.t = 20
 ·exact one_20 B a n c xs f w hd hf h20 hn hn8 hB
 by_cases h17 : f.c.t = 17
 ·exact one_17 B a n c xs f w hd hf h17 hn hn8 hB
 by_cases h21 : f.c.t = 21
 ·exact one_21 B a n c xs f w hd hf h21 hn hn8 hB
 by_cases h18 : f.c.t = 18
 ·exact one_18 B a n c xs f w hd hf h18 hn hn8 hB
 by_cases h22 : f.c.t = 22
 ·exact one_22 B a n c xs f w hd hf h22 hn hn8 hB
 by_cases h24 : f.c.t = 24
 ·exact one_24 B a n c xs f w hd hf h24 hn hn8 hB
 by_cases h25 : f.c.t = 25
 ·exact one_25 B a n c xs f w hd hf h25 hn hn8 hB
 by_cases h26 : f.c.t = 26
 ·exact one_26 B a n c xs f w hd hf h26 hn hn8 hB
 by_cases h27 : f.c.t = 27
 ·exact one_27 B a n c xs f w hd hf h27 hn hn8 hB
 by_cases h28 : f.c.t = 28
 ·exact one_28 B a n c xs f w hd hf h28 hn hn8 hB
 refine one_no B a n c xs f w hd hf h0 ?_ hn hn8 hB
 unfold typesQ
 simp only [List.mem_cons, List.not_mem_nil, or_false, not_or]
 exact ⟨h1, h30, h2, h4, h5, h6, h7, h8, h16, h20, h17, h21, h18, h22, h24, h25, h26, h27, h28⟩

/-- What Frames answers. -/
def FramesP (B : Nat) (a : Option Addr) (r : Option (List UInt8)) (w : World) (e : Ending) (w' : World) : Prop :=
 Keeps (mine B a) w w' ∧ match r with
  | some ys => ∃ a' n' c', e = .returned (.tuple #[.slice a' n' c', .int .i64 0]) ∧ Sb B w' a' n' c' ys ∧ Near B w a a'
  | none => e = .returned (.tuple #[.slice none 0 0, .int .i64 30])

set_option maxRecDepth 100000 in
set_option maxHeartbeats 3200000 in
theorem rframes_any (B : Nat) (a : Option Addr) (n c : Nat) (xs : List UInt8) (la : Option Addr) (ln lc : Nat) (l : List Qf) (w : World) (hd : Sb B w a n c xs) (hl : ∀ w', Below B w w' → Qv w' la ln lc l) (hs : ∀ f ∈ l, f.c.Small) (hn : n ≤ 1000000) (hln : l.length ≤ 100) (hB : B ≤ w.heap.size) :
  Calls Try.prog 12 #[.slice a n c, .slice la ln lc] w (FramesP B a (encsO xs l) w) := by
 have HD := Lib.hid hd
 have HL := Lib.hid hl
 have HS := Lib.hid hs
 have HLN : Hid (ln = l.length) := Lib.hid (hl w (Below.refl _ _)).1
 have hlc : ln ≤ lc := (hl w (Below.refl _ _)).2.1
 clear hd hl hs
 go_enter Try.func12, Try.ntmps12
 go_wp2_with fail
 go_loopg [0, 6] ln (fun k vb vi wr => ∃ (i : Nat) (a' : Option Addr) (n' c' : Nat) (ys : List UInt8), vi = .int .i64 i ∧ vb = .slice a' n' c' ∧ k + i = ln ∧ encsQ ((l.take i).map (·.c)) = some ys ∧ Sb B wr a' n' c' (xs ++ ys) ∧ Keeps (mine B a) w wr ∧ Near B w a a')
 case atStart => exact ⟨0, a, n, c, [], rfl, rfl, by omega, rfl, by rw [List.append_nil]; exact HD.out, Keeps.refl _ _, Near.refl _ _ _⟩
 case round =>
  obtain ⟨i, a1, n1, c1, ys, rfl, rfl, hk, he, hw1, hk1, hn1⟩ := hrel
  have HI := Lib.hid hk
  have HE := Lib.hid he
  have HD1 := Lib.hid hw1
  have HK1 := Lib.hid hk1
  have HN1 := Lib.hid hn1
  clear hk he hw1 hk1 hn1
  by_cases hin : i < ln
  ·have hix : i < l.length := by have := HLN.out; omega
   have HB1 : Hid (Below B w wr) := Lib.hid (Keeps.below (Below.refl B w) HK1.out hB (fun k h => h.1))
   have hB1 : B ≤ wr.heap.size := Nat.le_trans hB HK1.out.size
   obtain ⟨⟨bb, oo, rfl, hbb, hcell⟩, hqin⟩ := (HL.out wr HB1.out).2.2.2 i hix
   have hsm := HS.out _ (List.getElem_mem hix)
   have hnb : n1 ≤ 5000000 := by
    have h1 := HD1.out.1.1
    have h2 := HD.out.1.1
    have h3 := encsQ_len _ ys (fun c hc => by
     obtain ⟨g, hg, rfl⟩ := List.mem_map.1 hc
     exact HS.out g (List.mem_of_mem_take hg)) HE.out
    simp only [List.length_map, List.length_take, List.length_append] at h1 h3
    omega
   have HNX : Hid (∀ zs, encQ l[i].c = some zs → encsQ ((l.take (i + 1)).map (·.c)) = some (ys ++ zs)) := Lib.hid (fun zs hz => by
    rw [List.take_succ_eq_append_getElem hix, List.map_append, List.map_singleton, encsQ_snoc, HE.out, hz])
   have HNO : Hid (encQ l[i].c = none → encsO xs l = none) := Lib.hid (fun hz => by
    unfold encsO
    rw [encsQ_cut (l.map (·.c)) i (by simpa using hix) ys (by rw [← List.map_take]; exact HE.out) (by simpa using hz)])
   have hfn : l[i].n ≤ 1000000 := by have := hqin.b.1; have := hsm.b; omega
   have HQI : Hid (∀ w', Below B wr w' → Qin w' l[i]) := Lib.hid (fun w' h => ((HL.out w' (HB1.out.trans h)).2.2.2 i hix).2)
   have HSM := Lib.hid hsm
   clear hqin hsm
   generalize l[i] = f at *
   have r0 : wr.cell? ⟨bb, oo + i * 12 + 0, none⟩ = some (.int .u64 f.c.t) := hcell 0 _ rfl
   have r1 : wr.cell? ⟨bb, oo + i * 12 + 1, none⟩ = some (.int .u64 f.c.id) := hcell 1 _ rfl
   have r2 : wr.cell? ⟨bb, oo + i * 12 + 2, none⟩ = some (.int .u64 f.c.off) := hcell 2 _ rfl
   have r3 : wr.cell? ⟨bb, oo + i * 12 + 3, none⟩ = some (.bool f.c.fin) := hcell 3 _ rfl
   have r4 : wr.cell? ⟨bb, oo + i * 12 + 4, none⟩ = some (.int .u64 f.c.mx) := hcell 4 _ rfl
   have r5 : wr.cell? ⟨bb, oo + i * 12 + 5, none⟩ = some (.int .u64 f.c.code) := hcell 5 _ rfl
   have r6 : wr.cell? ⟨bb, oo + i * 12 + 6, none⟩ = some (.int .u64 f.c.delay) := hcell 6 _ rfl
   have r7 : wr.cell? ⟨bb, oo + i * 12 + 7, none⟩ = some (.slice f.ra f.rn f.rc) := hcell 7 _ rfl
   have r8 : wr.cell? ⟨bb, oo + i * 12 + 8, none⟩ = some (.slice f.a f.n f.cap) := hcell 8 _ rfl
   have r9 : wr.cell? ⟨bb, oo + i * 12 + 9, none⟩ = some (.bool f.c.uni) := hcell 9 _ rfl
   have r10 : wr.cell? ⟨bb, oo + i * 12 + 10, none⟩ = some (.bool f.c.app) := hcell 10 _ rfl
   have r11 : wr.cell? ⟨bb, oo + i * 12 + 11, none⟩ = some (.int .i64 f.c.N) := hcell 11 _ rfl
   simp only [Nat.add_zero] at r0
   clear hcell
   have hiI : (i : Int) < (ln : Int) := by omega
   have hz0 : (0 : Int) ≤ (i : Int) := by omega
   go_wp2_with fail
   clear r0 r1 r2 r3 r4 r5 r6 r7 r8 r9 r10 r11
   refine (one_any B a1 n1 c1 (xs ++ ys) f wr HD1.out HQI.out (by have := HSM.out.n; omega) (by omega) hfn hB1).mono ?_
   rintro e w6 ⟨hk6, hr⟩
   have HK6 : Hid (Keeps (mine B a) w w6) := Lib.hid (Keeps.step HK1.out HN1.out hk6)
   cases he : encQ f.c with
   | none =>
    rw [encO_none he] at hr
    have hr' : e = .returned (.tuple #[.slice none 0 0, .bool false]) := hr
    subst hr'
    have HNN := Lib.hid (HNO.out he)
    clear he hr hk6
    go_wp2_with fail
    go_returns
    refine ⟨HK6.out, ?_⟩
    rw [HNN.out]
    rfl
   | some zs =>
    have h1 : encO (xs ++ ys) f.c = some (xs ++ ys ++ zs) := by unfold encO; rw [he]
    rw [h1] at hr
    obtain ⟨a6, n6, c6, rfl, hw6, hn6⟩ := hr
    have HE6 := Lib.hid (HNX.out zs he)
    have HD6 : Hid (Sb B w6 a6 n6 c6 (xs ++ (ys ++ zs))) := Lib.hid (by rw [← List.append_assoc]; exact hw6)
    have HN6 : Hid (Near B w a a6) := Lib.hid (Near.step HN1.out HK1.out hn6)
    clear he h1 hk6 hw6 hn6
    obtain ⟨g, rfl⟩ : ∃ g, gk = g + 1 := ⟨gk - 1, by have := HI.out; omega⟩
    go_wp2_with fail
    go_roundg g
    case measure => omega
    case rel => exact ⟨i + 1, a6, n6, c6, ys ++ zs, by go_num, rfl, by have := HI.out; omega, HE6.out, HD6.out, HK6.out, HN6.out⟩
  ·have HALL : Hid (encsO xs l = some (xs ++ ys)) := Lib.hid (by
    have h1 := HE.out
    rw [List.take_of_length_le (by have := HI.out; have := HLN.out; omega)] at h1
    unfold encsO
    rw [h1])
   go_wp2_with fail
   go_returns
   refine ⟨HK1.out, ?_⟩
   rw [HALL.out]
   exact ⟨_, _, _, rfl, HD1.out, HN1.out⟩

end Go.Proofs.Ytgfkgmmigbpciaa

/- Helpers of the statements: light, Ranges, QFrame, QFrames. -/
namespace Go.Proofs.Ytgfkgmmigbpciaa
set_option linter.unusedSimpArgs false
set_option linter.unusedVariables false
open Go.RowKit Go.Deep

set_option maxHeartbeats 1600000 in
theorem ranges_eq (a1 : Option Addr) (n1 k1 : Nat) (a2 : Option Addr) (n2 k2 : Nat) (rs : List (Int × Int)) (w : World) (h1 : ∀ w', Keeps (fun _ => False) w w' → Rv w' a1 n1 k1 rs) (h2 : ∀ w', Keeps (fun _ => False) w w' → Rv w' a2 n2 k2 rs) (hl : rs.length ≤ 1000) :
  Calls Try.prog 34 #[.slice a1 n1 k1, .slice a2 n2 k2] w fun e w' => e = .returned (.bool true) ∧ Keeps (fun _ => False) w w' := by
 have H1 := Lib.hid h1
 have H2 := Lib.hid h2
 have hn1 := (h1 w (Keeps.refl _ _)).1
 have hn2 := (h2 w (Keeps.refl _ _)).1
 have hk1 := (h1 w (Keeps.refl _ _)).2.le
 have hk2 := (h2 w (Keeps.refl _ _)).2.le
 clear h1 h2
 obtain rfl : n2 = n1 := by omega
 have HN := Lib.hid hn1
 clear hn1 hn2
 go_enter Try.func34, Try.ntmps34
 go_wp2_with fail
 go_loopg [5] n2 (fun k vi wr => ∃ i : Nat, vi = .int .i64 i ∧ k + i = n2 ∧ Keeps (fun _ => False) w wr)
 case atStart => exact ⟨0, rfl, by omega, Keeps.refl _ _⟩
 case round =>
  obtain ⟨i, rfl, hk, hkw⟩ := hrel
  have HI := Lib.hid hk
  have HK := Lib.hid hkw
  clear hk hkw
  by_cases hin : i < n2
  ·have hix : i < rs.length := by have := HN.out; omega
   obtain ⟨b1, o1, rfl, -, hc1⟩ := (H1.out wr HK.out).get (by omega)
   obtain ⟨b2, o2, rfl, -, hc2⟩ := (H2.out wr HK.out).get (by omega)
   obtain ⟨c0, c1⟩ := hc1 i hix
   obtain ⟨d0, d1⟩ := hc2 i hix
   clear hc1 hc2
   generalize rs[i].1 = F at *
   generalize rs[i].2 = L at *
   have hz0 : (0 : Int) ≤ (i : Int) := by omega
   have hz1 : (i : Int) < (n2 : Int) := by omega
   obtain ⟨g, rfl⟩ : ∃ g, gk = g + 1 := ⟨gk - 1, by have := HI.out; omega⟩
   go_wp2_with fail
   go_quiet (fail)
   go_wp2_with fail
   go_roundg g
   case measure => omega
   case rel => exact ⟨i + 1, by go_num, by have := HI.out; omega, HK.out.drewN _⟩
  ·have hi2 : i = n2 := by have := HI.out; omega
   have hnlt : decide ((i : Int) < (n2 : Int)) = false := by simp; omega
   go_wp2_with fail
   go_returns
   exact ⟨rfl, HK.out⟩

set_option maxRecDepth 100000 in
set_option maxHeartbeats 3200000 in
theorem qframe_eq0 (t id off : Int) (fin : Bool) (mx code delay : Int) (ra : Option Addr) (rn rc : Nat) (a : Option Addr) (n cap : Nat) (ra' : Option Addr) (rn' rc' : Nat) (a' : Option Addr) (n' cap' : Nat) (uni app : Bool) (N : Int) (rs : List (Int × Int)) (xs : List UInt8) (w : World)
  (h1 : ∀ w', Keeps (fun _ => False) w w' → Rv w' ra rn rc rs) (h2 : ∀ w', Keeps (fun _ => False) w w' → Rv w' ra' rn' rc' rs) (h3 : ∀ w', Keeps (fun _ => False) w w' → By w' a n cap xs) (h4 : ∀ w', Keeps (fun _ => False) w w' → By w' a' n' cap' xs) (hl : rs.length ≤ 1000) :
  Calls Try.prog 19 #[.agg #[.int .u64 t, .int .u64 id, .int .u64 off, .bool fin, .int .u64 mx, .int .u64 code, .int .u64 delay, .slice ra rn rc, .slice a n cap, .bool uni, .bool app, .int .i64 N], .agg #[.int .u64 t, .int .u64 id, .int .u64 off, .bool fin, .int .u64 mx, .int .u64 code, .int .u64 delay, .slice ra' rn' rc', .slice a' n' cap', .bool uni, .bool app, .int .i64 N]] w fun e w' => e = .returned (.bool true) ∧ Keeps (fun _ => False) w w' := by
 have H1 := Lib.hid h1
 have H2 := Lib.hid h2
 have H3 := Lib.hid h3
 have H4 := Lib.hid h4
 clear h1 h2 h3 h4
 have HKa : Hid (Keeps (fun _ => False) w ((w.alloc (.cells #[.int .u64 t, .int .u64 id, .int .u64 off, .bool fin, .int .u64 mx, .int .u64 code, .int .u64 delay, .slice ra rn rc, .slice a n cap, .bool uni, .bool app, .int .i64 N] 32 (0, 0))).alloc (.cells #[.int .u64 t, .int .u64 id, .int .u64 off, .bool fin, .int .u64 mx, .int .u64 code, .int .u64 delay, .slice ra' rn' rc', .slice a' n' cap', .bool uni, .bool app, .int .i64 N] 32 (0, 0)))) := Lib.hid (((Keeps.refl _ w).alloc _).alloc _)
 have HBF : Hid (Blk ((w.alloc (.cells #[.int .u64 t, .int .u64 id, .int .u64 off, .bool fin, .int .u64 mx, .int .u64 code, .int .u64 delay, .slice ra rn rc, .slice a n cap, .bool uni, .bool app, .int .i64 N] 32 (0, 0))).alloc (.cells #[.int .u64 t, .int .u64 id, .int .u64 off, .bool fin, .int .u64 mx, .int .u64 code, .int .u64 delay, .slice ra' rn' rc', .slice a' n' cap', .bool uni, .bool app, .int .i64 N] 32 (0, 0))) w.heap.size #[.int .u64 t, .int .u64 id, .int .u64 off, .bool fin, .int .u64 mx, .int .u64 code, .int .u64 delay, .slice ra rn rc, .slice a n cap, .bool uni, .bool app, .int .i64 N] 32) := Lib.hid ((Blk.new w _ _).alloc _)
 have HBG : Hid (Blk ((w.alloc (.cells #[.int .u64 t, .int .u64 id, .int .u64 off, .bool fin, .int .u64 mx, .int .u64 code, .int .u64 delay, .slice ra rn rc, .slice a n cap, .bool uni, .bool app, .int .i64 N] 32 (0, 0))).alloc (.cells #[.int .u64 t, .int .u64 id, .int .u64 off, .bool fin, .int .u64 mx, .int .u64 code, .int .u64 delay, .slice ra' rn' rc', .slice a' n' cap', .bool uni, .bool app, .int .i64 N] 32 (0, 0))) (w.heap.size + 1) #[.int .u64 t, .int .u64 id, .int .u64 off, .bool fin, .int .u64 mx, .int .u64 code, .int .u64 delay, .slice ra' rn' rc', .slice a' n' cap', .bool uni, .bool app, .int .i64 N] 32) := Lib.hid (by have h := Blk.new (w.alloc (.cells #[.int .u64 t, .int .u64 id, .int .u64 off, .bool fin, .int .u64 mx, .int .u64 code, .int .u64 delay, .slice ra rn rc, .slice a n cap, .bool uni, .bool app, .int .i64 N] 32 (0, 0))) #[.int .u64 t, .int .u64 id, .int .u64 off, .bool fin, .int .u64 mx, .int .u64 code, .int .u64 delay, .slice ra' rn' rc', .slice a' n' cap', .bool uni, .bool app, .int .i64 N] 32; rwa [World.size_alloc] at h)
 go_enter Try.func19, Try.ntmps19
 go_wp2_with fail
 refine (ranges_eq ra rn rc ra' rn' rc' rs _ (fun w' h => H1.out w' (HKa.out.trans h)) (fun w' h => H2.out w' (HKa.out.trans h)) hl).mono ?_
 rintro e w3 ⟨rfl, hk3⟩
 have HK3 := Lib.hid (HKa.out.trans hk3)
 have HF3 := Lib.hid (hk3.blk HBF.out (fun h => h))
 have HG3 := Lib.hid (hk3.blk HBG.out (fun h => h))
 clear hk3
 have p8 : w3.cell? ⟨w.heap.size, 8, none⟩ = some (.slice a n cap) := HF3.out.cell 8
 have p9 : w3.cell? ⟨w.heap.size, 9, none⟩ = some (.bool uni) := HF3.out.cell 9
 have p10 : w3.cell? ⟨w.heap.size, 10, none⟩ = some (.bool app) := HF3.out.cell 10
 have p11 : w3.cell? ⟨w.heap.size, 11, none⟩ = some (.int .i64 N) := HF3.out.cell 11
 have q8 : w3.cell? ⟨w.heap.size + 1, 8, none⟩ = some (.slice a' n' cap') := HG3.out.cell 8
 have q9 : w3.cell? ⟨w.heap.size + 1, 9, none⟩ = some (.bool uni) := HG3.out.cell 9
 have q10 : w3.cell? ⟨w.heap.size + 1, 10, none⟩ = some (.bool app) := HG3.out.cell 10
 have q11 : w3.cell? ⟨w.heap.size + 1, 11, none⟩ = some (.int .i64 N) := HG3.out.cell 11
 go_wp2_with fail
 refine By.upon (H3.out w3 HK3.out) ?_
 go_wp2_with fail
 refine By.upon (H4.out w3 HK3.out) ?_
 go_wp2_with fail
 go_returns
 exact ⟨by simp, HK3.out⟩
theorem qframe_eq (f g : Qf) (w : World) (hc : g.c = f.c) (hf : ∀ w', Keeps (fun _ => False) w w' → Qin w' f) (hg : ∀ w', Keeps (fun _ => False) w w' → Qin w' g) (hl : f.c.rs.length ≤ 1000) :
  Calls Try.prog 19 #[.agg f.cs, .agg g.cs] w fun e w' => e = .returned (.bool true) ∧ Keeps (fun _ => False) w w' := by
 have h := qframe_eq0 f.c.t f.c.id f.c.off f.c.fin f.c.mx f.c.code f.c.delay f.ra f.rn f.rc f.a f.n f.cap g.ra g.rn g.rc g.a g.n g.cap f.c.uni f.c.app f.c.N f.c.rs f.c.xs w (fun w' h => (hf w' h).r) (fun w' h => by have h := (hg w' h).r; rwa [hc] at h) (fun w' h => (hf w' h).b) (fun w' h => by have h := (hg w' h).b; rwa [hc] at h) hl
 unfold Qf.cs
 rw [hc]
 exact h

end Go.Proofs.Ytgfkgmmigbpciaa

/- QFrames of bifoldhelp, light of the law. -/
namespace Go.Proofs.Ytgfkgmmigbpciaa
set_option linter.unusedSimpArgs false
set_option linter.unusedVariables false
open Go.RowKit Go.Deep

theorem thenX_named {K : Act → World → Prop} {Q' : Exit → Act → World → Prop} {a : Act} {w : World} (h : ∀ w' : World, w = w' → Exit.then K Q' .normal a w') : Exit.then K Q' .normal a w := h w rfl
theorem then_frame {K : Act → World → Prop} {Q' : Exit → Act → World → Prop} {a b : Act} {w : World} (h : a = b) (k : Exit.then K Q' .normal b w) : Exit.then K Q' .normal a w := h ▸ k
theorem at_keep {w w' : World} {b o : Nat} {v : Value} (h : Keeps (fun _ => False) w w') (hb : b < w.heap.size) (hc : w.cell? ⟨b, o, none⟩ = some v) : w'.cell? ⟨b, o, none⟩ = some v := by rw [← hc]; exact World.cell?_of_block (h.block b hb (fun h => h))

set_option maxRecDepth 100000 in
set_option maxHeartbeats 3200000 in
theorem qframes_eq (a1 : Option Addr) (n1 k1 : Nat) (a2 : Option Addr) (n2 k2 : Nat) (l m : List Qf) (w : World) (h1 : ∀ w', Keeps (fun _ => False) w w' → Qv w' a1 n1 k1 l) (h2 : ∀ w', Keeps (fun _ => False) w w' → Qv w' a2 n2 k2 m) (he : l.map (·.c) = m.map (·.c)) (hr : ∀ f ∈ l, f.c.rs.length ≤ 1000) (hl : l.length ≤ 100000) :
  Calls Try.prog 15 #[.slice a1 n1 k1, .slice a2 n2 k2] w fun e w' => e = .returned (.bool true) ∧ Keeps (fun _ => False) w w' := by
 have H1 := Lib.hid h1
 have H2 := Lib.hid h2
 have HE := Lib.hid he
 have HR := Lib.hid hr
 have hlen : l.length = m.length := by have h := congrArg List.length he; simpa using h
 have hn1 := (h1 w (Keeps.refl _ _)).1
 have hn2 := (h2 w (Keeps.refl _ _)).1
 have hk1 := (h1 w (Keeps.refl _ _)).2.1
 have hk2 := (h2 w (Keeps.refl _ _)).2.1
 clear h1 h2 he hr
 obtain rfl : n2 = n1 := by omega
 have HN := Lib.hid hn1
 have HM := Lib.hid hn2
 clear hn1 hn2 hlen
 go_enter Try.func15, Try.ntmps15
 go_wp2_with fail
 go_loopg [5] n2 (fun k vi wr => ∃ i : Nat, vi = .int .i64 i ∧ k + i = n2 ∧ Keeps (fun _ => False) w wr)
 case atStart => exact ⟨0, rfl, by omega, Keeps.refl _ _⟩
 case round =>
  obtain ⟨i, rfl, hk, hkw⟩ := hrel
  have HI := Lib.hid hk
  have HK := Lib.hid hkw
  clear hk hkw
  by_cases hin : i < n2
  ·have hix : i < l.length := by have := HN.out; omega
   have him : i < m.length := by have := HM.out; omega
   obtain ⟨⟨b1, o1, rfl, hb1, hc1⟩, _⟩ := (H1.out wr HK.out).2.2.2 i hix
   obtain ⟨⟨b2, o2, rfl, hb2, hc2⟩, _⟩ := (H2.out wr HK.out).2.2.2 i him
   have HQ1 : Hid (∀ w', Keeps (fun _ => False) wr w' → Qin w' l[i]) := Lib.hid (fun w' h => ((H1.out w' (HK.out.trans h)).2.2.2 i hix).2)
   have HQ2 : Hid (∀ w', Keeps (fun _ => False) wr w' → Qin w' m[i]) := Lib.hid (fun w' h => ((H2.out w' (HK.out.trans h)).2.2.2 i him).2)
   have HC : Hid (m[i].c = l[i].c) := Lib.hid (by
    have h := congrArg (fun x : List Qc => x[i]?) HE.out
    simp only [List.getElem?_map, List.getElem?_eq_getElem hix, List.getElem?_eq_getElem him, Option.map_some, Option.some.injEq] at h
    exact h.symm)
   have HRI := Lib.hid (HR.out _ (List.getElem_mem hix))
   generalize l[i] = f at *
   generalize m[i] = g at *
   have p0 : wr.cell? ⟨b1, o1 + i * 12 + 0, none⟩ = some (.int .u64 f.c.t) := hc1 0 _ rfl
   have p1 : wr.cell? ⟨b1, o1 + i * 12 + 1, none⟩ = some (.int .u64 f.c.id) := hc1 1 _ rfl
   have p2 : wr.cell? ⟨b1, o1 + i * 12 + 2, none⟩ = some (.int .u64 f.c.off) := hc1 2 _ rfl
   have p3 : wr.cell? ⟨b1, o1 + i * 12 + 3, none⟩ = some (.bool f.c.fin) := hc1 3 _ rfl
   have p4 : wr.cell? ⟨b1, o1 + i * 12 + 4, none⟩ = some (.int .u64 f.c.mx) := hc1 4 _ rfl
   have p5 : wr.cell? ⟨b1, o1 + i * 12 + 5, none⟩ = some (.int .u64 f.c.code) := hc1 5 _ rfl
   have p6 : wr.cell? ⟨b1, o1 + i * 12 + 6, none⟩ = some (.int .u64 f.c.delay) := hc1 6 _ rfl
   have p7 : wr.cell? ⟨b1, o1 + i * 12 + 7, none⟩ = some (.slice f.ra f.rn f.rc) := hc1 7 _ rfl
   have p8 : wr.cell? ⟨b1, o1 + i * 12 + 8, none⟩ = some (.slice f.a f.n f.cap) := hc1 8 _ rfl
   have p9 : wr.cell? ⟨b1, o1 + i * 12 + 9, none⟩ = some (.bool f.c.uni) := hc1 9 _ rfl
   have p10 : wr.cell? ⟨b1, o1 + i * 12 + 10, none⟩ = some (.bool f.c.app) := hc1 10 _ rfl
   have p11 : wr.cell? ⟨b1, o1 + i * 12 + 11, none⟩ = some (.int .i64 f.c.N) := hc1 11 _ rfl
   have q0 : wr.cell? ⟨b2, o2 + i * 12 + 0, none⟩ = some (.int .u64 g.c.t) := hc2 0 _ rfl
   have q1 : wr.cell? ⟨b2, o2 + i * 12 + 1, none⟩ = some (.int .u64 g.c.id) := hc2 1 _ rfl
   have q2 : wr.cell? ⟨b2, o2 + i * 12 + 2, none⟩ = some (.int .u64 g.c.off) := hc2 2 _ rfl
   have q3 : wr.cell? ⟨b2, o2 + i * 12 + 3, none⟩ = some (.bool g.c.fin) := hc2 3 _ rfl
   have q4 : wr.cell? ⟨b2, o2 + i * 12 + 4, none⟩ = some (.int .u64 g.c.mx) := hc2 4 _ rfl
   have q5 : wr.cell? ⟨b2, o2 + i * 12 + 5, none⟩ = some (.int .u64 g.c.code) := hc2 5 _ rfl
   have q6 : wr.cell? ⟨b2, o2 + i * 12 + 6, none⟩ = some (.int .u64 g.c.delay) := hc2 6 _ rfl
   have q7 : wr.cell? ⟨b2, o2 + i * 12 + 7, none⟩ = some (.slice g.ra g.rn g.rc) := hc2 7 _ rfl
   have q8 : wr.cell? ⟨b2, o2 + i * 12 + 8, none⟩ = some (.slice g.a g.n g.cap) := hc2 8 _ rfl
   have q9 : wr.cell? ⟨b2, o2 + i * 12 + 9, none⟩ = some (.bool g.c.uni) := hc2 9 _ rfl
   have q10 : wr.cell? ⟨b2, o2 + i * 12 + 10, none⟩ = some (.bool g.c.app) := hc2 10 _ rfl
   have q11 : wr.cell? ⟨b2, o2 + i * 12 + 11, none⟩ = some (.int .i64 g.c.N) := hc2 11 _ rfl
   simp only [Nat.add_zero] at p0 q0
   clear hc1 hc2
   have hz0 : (0 : Int) ≤ (i : Int) := by omega
   have hz1 : (i : Int) < (n2 : Int) := by omega
   obtain ⟨gg, rfl⟩ : ∃ g, gk = g + 1 := ⟨gk - 1, by have := HI.out; omega⟩
   go_wp2_with fail
   have HKd : Hid (Keeps (fun _ => False) wr wr.drew) := Lib.hid (Keeps.refl _ _).drew
   refine wp_region_held (S := fun w' : World => Keeps (fun _ => False) wr w') (by kernel_rfl) ?_
   change wpAnyH _ _ _ _ _ _ _ _ (World.drew _)
   have hS : (fun w' : World => Keeps (fun _ => False) wr w') wr.drew := HKd.out
   refine tH (i := 0) (v := ?_) rfl ?_ hS ?_
   rotate_left
   ·intro wz hz; go_simp; try with_reducible rfl
   refine tH (i := 1) (v := ?_) rfl ?_ hS ?_
   rotate_left
   ·intro wz hz; go_simp; try with_reducible rfl
   refine tH (i := 2) (v := ?_) rfl ?_ hS ?_
   rotate_left
   ·intro wz hz; go_simp; try with_reducible rfl
   refine tH (i := 3) (v := .agg f.cs) rfl ?_ hS ?_
   ·intro wz hz
    have r0 := at_keep hz hb1 p0
    have r1 := at_keep hz hb1 p1
    have r2 := at_keep hz hb1 p2
    have r3 := at_keep hz hb1 p3
    have r4 := at_keep hz hb1 p4
    have r5 := at_keep hz hb1 p5
    have r6 := at_keep hz hb1 p6
    have r7 := at_keep hz hb1 p7
    have r8 := at_keep hz hb1 p8
    have r9 := at_keep hz hb1 p9
    have r10 := at_keep hz hb1 p10
    have r11 := at_keep hz hb1 p11
    unfold Qf.cs; go_simp; try with_reducible rfl
   refine tH (i := 4) (v := ?_) rfl ?_ hS ?_
   rotate_left
   ·intro wz hz; go_simp; try with_reducible rfl
   refine tH (i := 5) (v := ?_) rfl ?_ hS ?_
   rotate_left
   ·intro wz hz; go_simp; try with_reducible rfl
   refine tH (i := 6) (v := ?_) rfl ?_ hS ?_
   rotate_left
   ·intro wz hz; go_simp; try with_reducible rfl
   refine tH (i := 7) (v := .agg g.cs) rfl ?_ hS ?_
   ·intro wz hz
    have r0 := at_keep hz hb2 q0
    have r1 := at_keep hz hb2 q1
    have r2 := at_keep hz hb2 q2
    have r3 := at_keep hz hb2 q3
    have r4 := at_keep hz hb2 q4
    have r5 := at_keep hz hb2 q5
    have r6 := at_keep hz hb2 q6
    have r7 := at_keep hz hb2 q7
    have r8 := at_keep hz hb2 q8
    have r9 := at_keep hz hb2 q9
    have r10 := at_keep hz hb2 q10
    have r11 := at_keep hz hb2 q11
    unfold Qf.cs; go_simp; try with_reducible rfl
   refine held_call (i := 8) 19 #[.agg f.cs, .agg g.cs] rfl (by kernel_rfl) (by kernel_rfl) ?_ ?_
   ·go_simp; try with_reducible rfl
   refine (qframe_eq f g wr.drew HC.out (fun w' h => HQ1.out w' (HKd.out.trans h)) (fun w' h => HQ2.out w' (HKd.out.trans h)) HRI.out).mono ?_
   rintro e w3 ⟨rfl, hk3⟩
   have hk13 := HKd.out.trans hk3
   have hS3 : (fun w' : World => Keeps (fun _ => False) wr w') w3 := hk13
   refine ⟨_, rfl, hS3, ?_⟩
   clear hS
   have hS := hS3
   have HK3 := Lib.hid (HK.out.trans hk13)
   clear hS3 hk3 hk13 p0 q0 p1 q1 p2 q2 p3 q3 p4 q4 p5 q5 p6 q6 p7 q7 p8 q8 p9 q9 p10 q10 p11 q11
   refine tH (i := 9) (v := ?_) rfl ?_ hS ?_
   rotate_left
   ·intro wz hz; go_simp; try with_reducible rfl
   refine wpAnyH_done (by kernel_rfl) ?_ _
   clear hS
   refine then_frame (b := { tmps := #[.slice (some ⟨b1, o1, none⟩) n2 k1, .slice (some ⟨b2, o2, none⟩) n2 k2, undef, undef, u4, .int .i64 (i : Int), .slice (some ⟨b1, o1, none⟩) n2 k1, .int .i64 (n2 : Int), .slice (some ⟨b2, o2, none⟩) n2 k2, .int .i64 (n2 : Int), .bool false, .int .i64 (i : Int), .slice (some ⟨b1, o1, none⟩) n2 k1, .int .i64 (n2 : Int), .bool true, u15, u16, .slice (some ⟨b1, o1, none⟩) n2 k1, .int .i64 (i : Int), .pointer (some ⟨b1, o1 + i * 12, none⟩), .agg f.cs, .slice (some ⟨b2, o2, none⟩) n2 k2, .int .i64 (i : Int), .pointer (some ⟨b2, o2 + i * 12, none⟩), .agg g.cs, .bool true, .bool false], defers := [] }) (by kernel_rfl) ?_
   generalize f.cs = vf
   generalize g.cs = vg
   go_wp2_with fail
   go_roundg gg
   case measure => omega
   case rel => exact ⟨i + 1, by go_num, by have := HI.out; omega, HK3.out⟩
  ·have hi2 : i = n2 := by have := HI.out; omega
   have hnlt : decide ((i : Int) < (n2 : Int)) = false := by simp; omega
   go_wp2_with fail
   go_returns
   exact ⟨rfl, HK.out⟩

end Go.Proofs.Ytgfkgmmigbpciaa

/- light of the law. -/
namespace Go.Proofs.Ytgfkgmmigbpciaa
set_option linter.unusedSimpArgs false
set_option linter.unusedVariables false
open Go.RowKit Go.Deep

def Qc.light (c : Qc) : Bool := decide (c.xs.length ≤ 100) && (decide (c.rs.length ≤ 40) && decide (c.N ≤ 100))
def lightB (l : List Qf) : Bool := decide (l.length ≤ 10) && l.all (fun f => f.c.light)
theorem light_small {c : Qc} (h : c.light = true) : c.Small := by
 unfold Qc.light at h
 simp only [Bool.and_eq_true, decide_eq_true_eq] at h
 exact ⟨by omega, by omega, by omega⟩
theorem lightB_bd {l : List Qf} (h : lightB l = true) : l.length ≤ 10 ∧ ∀ f ∈ l, f.c.light = true := by
 unfold lightB at h
 simp only [Bool.and_eq_true, decide_eq_true_eq, List.all_eq_true] at h
 exact h
theorem lightB_no {l : List Qf} {i : Nat} (hi : i < l.length) (h : l[i].c.light = false) : lightB l = false := by
 cases hb : lightB l with
 | false => rfl
 | true =>
  have := (lightB_bd hb).2 _ (List.getElem_mem hi)
  rw [h] at this
  cases this

set_option maxRecDepth 100000 in
set_option maxHeartbeats 3200000 in
theorem light_any (a : Option Addr) (n cap : Nat) (l : List Qf) (w : World) (hl : Qv w a n cap l) :
  Calls Try.prog 10 #[.slice a n cap] w fun e w' => e = .returned (.bool (lightB l)) ∧ w = w' := by
 have HL := Lib.hid hl
 have hn := hl.1
 have hcap := hl.2.1
 have hmax := hl.2.2.1
 unfold maxLen at hmax
 clear hl
 by_cases h10 : n ≤ 10
 ·have HN := Lib.hid hn
  have hd : decide ((10 : Int) < (n : Int)) = false := by simp; omega
  have hnI : (n : Int) ≤ 10 := by omega
  clear hn
  go_enter Try.func10, Try.ntmps10
  go_wp2_with fail
  go_loopg [3] n (fun k vi wr => ∃ i : Nat, vi = .int .i64 i ∧ k + i = n ∧ (∀ j (hj : j < l.length), j < i → l[j].c.light = true) ∧ w = wr)
  case atStart => exact ⟨0, rfl, by omega, fun j _ hj => by omega, rfl⟩
  case round =>
   obtain ⟨i, rfl, hki, hall, rfl⟩ := hrel
   have HKI := Lib.hid hki
   have HALL := Lib.hid hall
   clear hki hall
   by_cases hin : i < n
   ·have hix : i < l.length := by have := HN.out; omega
    obtain ⟨⟨b, off, rfl, -, hc⟩, hq⟩ := HL.out.2.2.2 i hix
    have HBX : Hid (l[i].n = l[i].c.xs.length) := Lib.hid hq.b.1
    have HRX : Hid (l[i].rn = l[i].c.rs.length) := Lib.hid hq.r.1
    have HNO : Hid (l[i].c.light = false → lightB l = false) := Lib.hid (fun h => lightB_no hix h)
    have HYES : Hid (l[i].c.light = true → ∀ j (hj : j < l.length), j < i + 1 → l[j].c.light = true) := Lib.hid (fun h j hj hlt => by
     rcases Nat.lt_or_ge j i with h1 | h1
     ·exact HALL.out j hj h1
     ·obtain rfl : j = i := by omega
      exact h)
    have c7 : w.cell? ⟨b, off + i * 12 + 7, none⟩ = some (.slice l[i].ra l[i].rn l[i].rc) := hc 7 _ rfl
    have c8 : w.cell? ⟨b, off + i * 12 + 8, none⟩ = some (.slice l[i].a l[i].n l[i].cap) := hc 8 _ rfl
    have c11 : w.cell? ⟨b, off + i * 12 + 11, none⟩ = some (.int .i64 l[i].c.N) := hc 11 _ rfl
    clear hc hq
    generalize l[i] = f at *
    have hz0 : (0 : Int) ≤ (i : Int) := by omega
    have hz1 : (i : Int) < (n : Int) := by omega
    by_cases h1 : f.n ≤ 100
    ·have d1 : decide ((100 : Int) < (f.n : Int)) = false := by simp; omega
     by_cases h2 : f.rn ≤ 40
     ·have d2 : decide ((40 : Int) < (f.rn : Int)) = false := by simp; omega
      by_cases h3 : f.c.N ≤ 100
      ·have d3 : decide ((100 : Int) < f.c.N) = false := by simp; omega
       have HY := Lib.hid (HYES.out (by
        have := HBX.out
        have := HRX.out
        unfold Qc.light
        simp only [Bool.and_eq_true, decide_eq_true_eq]
        omega))
       obtain ⟨g, rfl⟩ : ∃ g, gk = g + 1 := ⟨gk - 1, by have := HKI.out; omega⟩
       clear h1 h2 h3
       go_wp2_with fail
       go_roundg g
       case measure => omega
       case rel => exact ⟨i + 1, by go_num, by have := HKI.out; omega, HY.out, rfl⟩
      ·have d3 : decide ((100 : Int) < f.c.N) = true := by simp; omega
       have HD := Lib.hid (HNO.out (by
        unfold Qc.light
        simp only [Bool.and_eq_false_iff, decide_eq_false_iff_not]
        omega))
       clear h1 h2 h3
       go_wp2_with fail
       go_returns
       exact ⟨by rw [HD.out]; rfl, rfl⟩
     ·have d2 : decide ((40 : Int) < (f.rn : Int)) = true := by simp; omega
      have HD := Lib.hid (HNO.out (by
       have := HRX.out
       unfold Qc.light
       simp only [Bool.and_eq_false_iff, decide_eq_false_iff_not]
       omega))
      clear h1 h2
      go_wp2_with fail
      go_returns
      exact ⟨by rw [HD.out]; rfl, rfl⟩
    ·have d1 : decide ((100 : Int) < (f.n : Int)) = true := by simp; omega
     have HD := Lib.hid (HNO.out (by
      have := HBX.out
      unfold Qc.light
      simp only [Bool.and_eq_false_iff, decide_eq_false_iff_not]
      omega))
     clear h1
     go_wp2_with fail
     go_returns
     exact ⟨by rw [HD.out]; rfl, rfl⟩
   ·have HD : Hid (lightB l = true) := Lib.hid (by
     unfold lightB
     simp only [Bool.and_eq_true, decide_eq_true_eq, List.all_eq_true]
     refine ⟨by have := HN.out; omega, fun f hf => ?_⟩
     obtain ⟨j, hj, rfl⟩ := List.getElem_of_mem hf
     exact HALL.out j hj (by have := HN.out; omega))
    have hlt : decide ((i : Int) < (n : Int)) = false := by simp; omega
    go_wp2_with fail
    go_returns
    exact ⟨by rw [HD.out]; rfl, rfl⟩
 ·have HD : Hid (lightB l = false) := Lib.hid (by
   unfold lightB
   simp only [Bool.and_eq_false_iff, decide_eq_false_iff_not]
   omega)
  have hd : decide ((10 : Int) < (n : Int)) = true := by simp; omega
  clear h10 hn
  go_enter Try.func10, Try.ntmps10
  go_wp2_with fail
  go_returns
  exact ⟨by rw [HD.out]; rfl, rfl⟩

end Go.Proofs.Ytgfkgmmigbpciaa
