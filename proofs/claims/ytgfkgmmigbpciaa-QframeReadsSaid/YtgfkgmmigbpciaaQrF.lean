/- The reader of the package qframe: ack. -/
import Derived.Test.YtgfkgmmigbpciaaQrA
namespace Go.Proofs.Ytgfkgmmigbpciaa
set_option linter.unusedSimpArgs false
set_option linter.unusedVariables false
open Go.RowKit Go.Deep

theorem thenX_named {K : Act → World → Prop} {Q' : Exit → Act → World → Prop} {a : Act} {w : World} (h : ∀ w' : World, w = w' → Exit.then K Q' .normal a w') : Exit.then K Q' .normal a w := h w rfl
/-- Ranges of one's own. -/
def Ra (base : Nat) (w : World) (a : Option Addr) (n cap : Nat) (l : List (Int × Int)) : Prop := n = l.length ∧ w.ownsRow base 54 2 (.slice a n cap) n (Rgs l)
theorem infoR : (Try.prog.info? 54).map (fun i => (i.zero, i.size, i.bytes)) = some (some (.agg #[.int .u64 0, .int .u64 0]), 2, 16) := by kernel_rfl
theorem Ra.rv {base : Nat} {w : World} {a : Option Addr} {n cap : Nat} {l : List (Int × Int)} (h : Ra base w a n cap l) : Rv w a n cap l := ⟨h.1, own_vw h.2⟩
theorem Ra.keep {base : Nat} {w w' : World} {S : Nat → Prop} {a : Option Addr} {n cap : Nat} {l : List (Int × Int)} (h : Ra base w a n cap l) (k : Keeps S w w') (hs : ∀ b, a.map (·.block) = some b → ¬ S b) : Ra base w' a n cap l := ⟨h.1, own_keep h.2 k hs⟩
theorem Ra.ge {base : Nat} {w : World} {a : Option Addr} {n cap : Nat} {l : List (Int × Int)} (h : Ra base w a n cap l) : ∀ b, a.map (·.block) = some b → base ≤ b ∧ b < w.heap.size := by
 intro b hb
 refine h.2.lt b ?_
 cases a with
 | none => cases hb
 | some a => simpa [Value.ownBlock] using hb
theorem Ra.new {base : Nat} (w : World) (u v : Int) (hL : base ≤ w.heap.size) : Ra base (w.alloc (.cells #[.int .u64 u, .int .u64 v] 54 (0, 0))) (some ⟨w.heap.size, 0, none⟩) 1 1 [(u, v)] :=
 ⟨rfl, by simp [Rgs], .inr ⟨w.heap.size, 1, #[.int .u64 u, .int .u64 v], rfl, hL, heap_alloc_new w _, Nat.le_refl _, by simp only [maxLen]; omega, by simp, by simp [Rgs]⟩⟩
theorem src_rg (w : World) (u v : Int) : Src Try.prog 2 30 (.slice (some ⟨w.heap.size, 0, none⟩) 1 1) 1 [.int .u64 u, .int .u64 v] (w.alloc (.cells #[.int .u64 u, .int .u64 v] 54 (0, 0))) := by
 refine Src.ofSlice _ Try.underlying30 _ _ _ _ rfl (fun j x hj => ?_) (fun x hu => ?_)
 ·have hb := Blk.new w #[.int .u64 u, .int .u64 v] 54
  match j with
  | 0 => exact (hb.cell 0).trans hj
  | 1 => exact (hb.cell 1).trans hj
  | j + 2 => simp at hj
 ·simp only [List.mem_cons, List.not_mem_nil, or_false] at hu
  rcases hu with rfl | rfl <;> rfl
/-- One more range. -/
theorem wpList_ra (w : World) {ops : Array Oper} {rest : List Oper} {o : Oper} {ac : Act} {Q : Exit → Act → World → Prop} (hg : o.guard = none) (s x : Operand)
  (hop : o.op = Op.call { callee := Callee.builtin Builtin.append, args := #[s, x], argTypes := #[30, 30] }) (base : Nat)
  (a : Option Addr) (n cap : Nat) (l : List (Int × Int)) (hs : ac.eval s = .slice a n cap) (hd : Ra base w a n cap l) (u v : Int) (hx : ac.eval x = .slice (some ⟨w.heap.size, 0, none⟩) 1 1)
  (b1 : n ≤ 1000) (hb : base ≤ w.heap.size)
  (hK : ∀ a' cap' w', Ra base w' a' (n + 1) cap' (l ++ [(u, v)]) → Keeps (mine base a) w w' → Near base w a a' → wpList Try.prog ops Q rest (ac.put o.dst (.slice a' (n + 1) cap')) w') :
  wpList Try.prog ops Q (o :: rest) ac (w.alloc (.cells #[.int .u64 u, .int .u64 v] 54 (0, 0))) := by
 obtain ⟨inf, hi, hz, hs1, hs2⟩ := info_parts infoR
 have hka : Keeps (fun _ => False) w (w.alloc (.cells #[.int .u64 u, .int .u64 v] 54 (0, 0))) := (Keeps.refl _ w).alloc _
 have hd1 := hd.keep hka (fun _ _ h => h)
 refine wpList_app _ hg s x 30 30 hop base 54 inf _ 2 16 Try.underlying30 hi hz hs1 hs2 rfl a n cap (Rgs l) hs (.inl hd1.2) _ hx 1 [.int .u64 u, .int .u64 v] (src_rg w u v) (by simp only [maxLen]; omega) (by omega) (Nat.le_trans hb hka.size) ?_
 intro a' cap' w' _ hk hn hown _
 have hkk : Keeps (mine base a) w w' := hka.to.trans hk
 refine hK a' cap' w' ⟨by rw [List.length_append, ← hd.1]; rfl, by rw [Rgs_append]; exact hown (by omega)⟩ hkk (fun k hk2 => ?_)
 rcases hn k hk2 with h | ⟨h1, h2⟩
 ·exact .inl h
 ·exact .inr ⟨Nat.le_trans hka.size h1, h2⟩
/-- The last range's lower end. -/
theorem Ra.last {base : Nat} {w : World} {a : Option Addr} {cap : Nat} {M : List (Int × Int)} {F G : Int} {i : Nat} (h : Ra base w a (i + 1) cap (M ++ [(F, G)])) (hM : M.length = i) :
  ∃ b off, a = some ⟨b, off, none⟩ ∧ w.cell? ⟨b, off + i * 2, none⟩ = some (.int .u64 F) := by
 obtain ⟨b, off, ha, _, hc⟩ := h.rv.get (by omega)
 refine ⟨b, off, ha, ?_⟩
 have h1 := (hc i (by simp; omega)).1
 subst hM
 simpa using h1
theorem prs_0 (f : Int) (ys : List UInt8) : prs 0 f ys = some ([], ys) := rfl
theorem prs_n (n : Nat) (f : Int) (ys : List UInt8) : prs (n + 1) f ys = pb (pn ys) fun g y1 => if f < g + 2 then none else pb (pn y1) fun d y2 => if f - g - 2 < d then none else
   pb (prs n (f - g - 2 - d) y2) fun l y3 => some ((f - g - 2 - d, f - g - 2) :: l, y3) := rfl
/-- What is still to be read of the ranges. -/
def preR (l : List (Int × Int)) (r : Option (List (Int × Int) × List UInt8)) : Option (List (Int × Int) × List UInt8) := pb r fun l' y => some (l ++ l', y)
theorem preR_nil (r : Option (List (Int × Int) × List UInt8)) : preR [] r = r := by
 unfold preR pb
 cases r <;> rfl
theorem preR_cons (l : List (Int × Int)) (x : Int × Int) (r : Option (List (Int × Int) × List UInt8)) : preR l (pb r fun l' y => some (x :: l', y)) = preR (l ++ [x]) r := by
 unfold preR pb
 cases r with
 | none => rfl
 | some z => simp
theorem preR_none (l : List (Int × Int)) : preR l none = none := rfl

theorem ack_results (fr : Array Value) (w : World) (b : Nat) {u0 u1 u2 u3 u4 u5 u6 u7 u8 u9 u10 u11 : Value} {t : TypeId} (h2 : fr[2]?.getD undef = .pointer (some ⟨b, 0, none⟩)) (hb : Blk w b #[u0, u1, u2, u3, u4, u5, u6, u7, u8, u9, u10, u11] t) :
  (results Try.f50 fr).run Try.prog w = .ok (.agg #[u0, u1, u2, u3, u4, u5, u6, u7, u8, u9, u10, u11]) w := by
 obtain ⟨s0, s1, s2, s3, s4, s5, s6, s7, s8, s9, s10, s11⟩ := q12_cells hb
 simp [results, Try.results50, go_sem, h2, s0, s1, s2, s3, s4, s5, s6, s7, s8, s9, s10, s11]

set_option maxRecDepth 100000 in
set_option maxHeartbeats 3200000 in
theorem racka_any (rb : Nat) (a : Option Addr) (m cap : Nat) (xs : List UInt8) (p : Nat) (ys : List UInt8) (w : World) (hr : Re w rb a m cap xs p ys) (hlt : ∀ b, a.map (·.block) = some b → b < w.heap.size) :
  Calls Try.prog 50 #[.pointer (some ⟨rb, 0, none⟩)] w (ReP rb a m cap xs (vFrame w.heap.size) (ackD ys) w) := by
 have HLT := Lib.hid hlt
 have HR := Lib.hid hr
 have hlm : m ≤ 1000000 := hr.small
 have hrb := hr.k.lt
 clear hr hlt
 go_enter Try.func50, Try.ntmps50
 go_wp2_with fail
 refine calls_named ?_
 intro w0 hw0
 have HR0 : Hid (Re w0 rb a m cap xs p ys) := Lib.hid (by rw [← hw0]; exact HR.out.same ((Keeps.refl _ _).alloc _))
 have HK0 : Hid (Keeps (fun k => k = rb) w w0) := Lib.hid (by rw [← hw0]; exact (Keeps.refl _ _).alloc _)
 have HZ0 : Hid (Blk w0 w.heap.size #[.int .u64 0, .int .u64 0, .int .u64 0, .bool false, .int .u64 0, .int .u64 0, .int .u64 0, .slice none 0 0, .slice none 0 0, .bool false, .bool false, .int .i64 0] 32) := Lib.hid (by rw [← hw0]; exact Blk.new _ _ _)
 obtain ⟨rs, hrs⟩ : ∃ rs, w.heap.size = rs := ⟨_, rfl⟩
 have HRS : Hid (w.heap.size ≤ rs) := Lib.hid (by omega)
 have HNZ : Hid (¬ rs = rb) := Lib.hid (by omega)
 rw [hrs] at HZ0 ⊢
 clear hw0 hrb HR hrs
 refine (num_any rb a m cap xs p ys w0 HR0.out).mono ?_
 rintro e w1 ⟨hk, hr⟩
 have HK1 := Lib.hid (HK0.out.trans hk)
 have HZ1 := Lib.hid (hk.blk HZ0.out HNZ.out)
 have HSZ1 : Hid (w0.heap.size ≤ w1.heap.size) := Lib.hid hk.size
 clear hk
 cases hq1 : pn ys with
 | none =>
  rw [hq1] at hr
  have hr' : e = .panicked [{ v := stopV, recovered := false }] := hr
  subst hr'
  have HQ1 := Lib.hid hq1
  clear hr hq1
  have HD : Hid (ackD ys = none) := Lib.hid (by unfold ackD; simp only [pb, HQ1.out, Bool.false_eq_true, if_false, if_true, ite_true, ite_false])
  go_wp2_with fail
  refine ⟨rfl, ?_⟩
  rw [HD.out]
  exact ReP.panic HK1.out
 | some x =>
  obtain ⟨v1, ys1⟩ := x
  rw [hq1] at hr
  obtain ⟨p1, val, rfl, rfl, hr⟩ := hr
  have hbd := pn_bd hq1
  have HU1 : Hid (inU v1) := Lib.hid ⟨hbd.1, by omega⟩
  have HV1 : Hid (0 ≤ v1 ∧ v1 ≤ 4611686018427387903) := Lib.hid ⟨hbd.1, hbd.2.1⟩
  have HQ1 := Lib.hid hq1
  have HR1 := Lib.hid hr
  clear hr hq1 hbd
  clear HR0 HK0 HZ0
  go_wp2_with fail
  refine (num_any rb a m cap xs p1 ys1 w1 HR1.out).mono ?_
  rintro e w2 ⟨hk, hr⟩
  have HK2 := Lib.hid (HK1.out.trans hk)
  have HZ2 := Lib.hid (hk.blk HZ1.out HNZ.out)
  have HSZ2 : Hid (w1.heap.size ≤ w2.heap.size) := Lib.hid hk.size
  clear hk
  cases hq2 : pn ys1 with
  | none =>
   rw [hq2] at hr
   have hr' : e = .panicked [{ v := stopV, recovered := false }] := hr
   subst hr'
   have HQ2 := Lib.hid hq2
   clear hr hq2
   have HD : Hid (ackD ys = none) := Lib.hid (by unfold ackD; simp only [pb, HQ1.out, HQ2.out, Bool.false_eq_true, if_false, if_true, ite_true, ite_false])
   go_wp2_with fail
   refine ⟨rfl, ?_⟩
   rw [HD.out]
   exact ReP.panic HK2.out
  | some x =>
   obtain ⟨v2, ys2⟩ := x
   rw [hq2] at hr
   obtain ⟨p2, val, rfl, rfl, hr⟩ := hr
   have hbd := pn_bd hq2
   have HU2 : Hid (inU v2) := Lib.hid ⟨hbd.1, by omega⟩
   have HV2 : Hid (0 ≤ v2 ∧ v2 ≤ 4611686018427387903) := Lib.hid ⟨hbd.1, hbd.2.1⟩
   have HQ2 := Lib.hid hq2
   have HR2 := Lib.hid hr
   clear hr hq2 hbd
   clear HR1 HK1 HZ1
   go_wp2_with fail
   refine (num_any rb a m cap xs p2 ys2 w2 HR2.out).mono ?_
   rintro e w3 ⟨hk, hr⟩
   have HK3 := Lib.hid (HK2.out.trans hk)
   have HZ3 := Lib.hid (hk.blk HZ2.out HNZ.out)
   have HSZ3 : Hid (w2.heap.size ≤ w3.heap.size) := Lib.hid hk.size
   clear hk
   cases hq3 : pn ys2 with
   | none =>
    rw [hq3] at hr
    have hr' : e = .panicked [{ v := stopV, recovered := false }] := hr
    subst hr'
    have HQ3 := Lib.hid hq3
    clear hr hq3
    have HD : Hid (ackD ys = none) := Lib.hid (by unfold ackD; simp only [pb, HQ1.out, HQ2.out, HQ3.out, Bool.false_eq_true, if_false, if_true, ite_true, ite_false])
    go_wp2_with fail
    refine ⟨rfl, ?_⟩
    rw [HD.out]
    exact ReP.panic HK3.out
   | some x =>
    obtain ⟨v3, ys3⟩ := x
    rw [hq3] at hr
    obtain ⟨p3, val, rfl, rfl, hr⟩ := hr
    have hbd := pn_bd hq3
    have HU3 : Hid (inU v3) := Lib.hid ⟨hbd.1, by omega⟩
    have HV3 : Hid (0 ≤ v3 ∧ v3 ≤ 4611686018427387903) := Lib.hid ⟨hbd.1, hbd.2.1⟩
    have HQ3 := Lib.hid hq3
    have HR3 := Lib.hid hr
    clear hr hq3 hbd
    clear HR2 HK2 HZ2
    obtain ⟨N, hN⟩ : ∃ N : Nat, v3 = N := ⟨v3.toNat, by have := HV3.out; omega⟩
    subst hN
    by_cases hn : 32 ≤ N
    ·have hd : decide ((N : Int) < 32) = false := by simp; omega
     have HM : Hid ((32 : Int) ≤ (N : Int)) := Lib.hid (by omega)
     clear hn
     go_wp2_with fail
     refine (must_no _).mono ?_
     rintro e w99 ⟨rfl, rfl⟩
     clear hd
     have HD : Hid (ackD ys = none) := Lib.hid (by unfold ackD; simp only [pb, HQ1.out, HQ2.out, HQ3.out, Bool.false_eq_true, if_false, if_true, ite_true, ite_false, if_pos HM.out])
     go_wp2_with fail
     refine ⟨rfl, ?_⟩
     rw [HD.out]
     exact ReP.panic HK3.out
    have hd : decide ((N : Int) < 32) = true := by simp; omega
    have HM : Hid (¬ (32 : Int) ≤ (N : Int)) := Lib.hid (by omega)
    go_wp2_with fail
    refine (must_ok _).mono ?_
    rintro e w99 ⟨rfl, rfl⟩
    clear hd
    go_wp2_with fail
    refine (num_any rb a m cap xs p3 ys3 w3 HR3.out).mono ?_
    rintro e w4 ⟨hk, hr⟩
    have HK4 := Lib.hid (HK3.out.trans hk)
    have HZ4 := Lib.hid (hk.blk HZ3.out HNZ.out)
    have HSZ4 : Hid (w3.heap.size ≤ w4.heap.size) := Lib.hid hk.size
    clear hk
    cases hq4 : pn ys3 with
    | none =>
     rw [hq4] at hr
     have hr' : e = .panicked [{ v := stopV, recovered := false }] := hr
     subst hr'
     have HQ4 := Lib.hid hq4
     clear hr hq4
     have HD : Hid (ackD ys = none) := Lib.hid (by unfold ackD; simp only [pb, HQ1.out, HQ2.out, HQ3.out, HQ4.out, if_neg (show ¬ (32 : Int) ≤ (N : Int) from by have := HM.out; omega), Bool.false_eq_true, if_false, if_true, ite_true, ite_false])
     go_wp2_with fail
     refine ⟨rfl, ?_⟩
     rw [HD.out]
     exact ReP.panic HK4.out
    | some x =>
     obtain ⟨v4, ys4⟩ := x
     rw [hq4] at hr
     obtain ⟨p4, val, rfl, rfl, hr⟩ := hr
     have hbd := pn_bd hq4
     have HU4 : Hid (inU v4) := Lib.hid ⟨hbd.1, by omega⟩
     have HV4 : Hid (0 ≤ v4 ∧ v4 ≤ 4611686018427387903) := Lib.hid ⟨hbd.1, hbd.2.1⟩
     have HQ4 := Lib.hid hq4
     have HR4 := Lib.hid hr
     clear hr hq4 hbd
     clear HR3 HK3 HZ3
     by_cases hld : v4 ≤ v1
     rotate_left
     ·have HM2 : Hid (v1 < v4) := Lib.hid (by omega)
      clear hld
      go_wp2_with fail
      refine (less_no v1 v4 _ HM2.out).mono ?_
      rintro e w99 ⟨rfl, rfl⟩
      have HD : Hid (ackD ys = none) := Lib.hid (by unfold ackD; simp only [pb, HQ1.out, HQ2.out, HQ3.out, HQ4.out, if_neg (show ¬ (32 : Int) ≤ (N : Int) from by have := HM.out; omega), Bool.false_eq_true, if_false, if_true, ite_true, ite_false, if_pos HM2.out])
      go_wp2_with fail
      refine ⟨rfl, ?_⟩
      rw [HD.out]
      exact ReP.panic HK4.out
     have HM2 : Hid (¬ v1 < v4) := Lib.hid (by omega)
     have HLD := Lib.hid hld
     go_wp2_with fail
     refine (less_ok v1 v4 _ HV4.out.1 (by have := HV1.out; omega) hld).mono ?_
     rintro e w99 ⟨rfl, rfl⟩
     clear hld
     go_wp2_with fail
     obtain ⟨F0, hF0⟩ : ∃ F0, v1 - v4 = F0 := ⟨_, rfl⟩
     rw [hF0]
     have HF0 : Hid (0 ≤ F0 ∧ F0 ≤ v1) := Lib.hid (by have h1 := HLD.out; have h2 := HV4.out; omega)
     have HW0 := Lib.hid (Ra.new (base := w4.heap.size) w4 F0 v1 (Nat.le_refl _))
     have HDD : Hid (ackD ys = pb (prs N F0 ys4) fun l y5 => some (⟨2, 0, 0, false, 0, 0, v2, (F0, v1) :: l, [], false, false, 0⟩, y5)) := Lib.hid (by
      rw [← hF0]
      unfold ackD
      simp only [pb, HQ1.out, HQ2.out, HQ3.out, HQ4.out, if_neg (show ¬ (32 : Int) ≤ (N : Int) from by have := HM.out; omega), if_neg (show ¬ v1 < v4 from by have := HM2.out; omega), Int.toNat_natCast])
     have HAK : Hid (Keeps (fun _ => False) w4 (w4.alloc (.cells #[.int .u64 F0, .int .u64 v1] 54 (0, 0)))) := Lib.hid ((Keeps.refl _ _).alloc _)
     have HRA := Lib.hid (HR4.out.same HAK.out)
     have HKA := Lib.hid (HK4.out.trans HAK.out.to)
     have HZA := Lib.hid (HAK.out.blk HZ4.out (fun h => h))
     have hsb : rs < w4.heap.size := HZ4.out.lt
     have hrb2 : rb < w4.heap.size := HR4.out.k.lt
     have hwb : w.heap.size ≤ w4.heap.size := HK4.out.size
     have hsz0 : w4.heap.size ≤ (w4.alloc (.cells #[.int .u64 F0, .int .u64 v1] 54 (0, 0))).heap.size := HAK.out.size
     have HC : Hid (rs < w4.heap.size ∧ rb < w4.heap.size ∧ w.heap.size ≤ w4.heap.size) := Lib.hid ⟨hsb, hrb2, hwb⟩
     clear hF0 hn HAK hsb hrb2 hwb HR4 HK4 HZ4
     generalize w4.alloc (.cells #[.int .u64 F0, .int .u64 v1] 54 (0, 0)) = W0 at *
     generalize w4.heap.size = base at *
     go_loopg [6, 26] N (fun k vl vi wr => ∃ (i : Nat) (al : Option Addr) (cl : Nat) (M : List (Int × Int)) (F G : Int) (q : Nat) (y : List UInt8), vl = .slice al (i + 1) cl ∧ vi = .int .u64 (i : Int) ∧ k + i = N ∧ M.length = i ∧ Ra base wr al (i + 1) cl (M ++ [(F, G)]) ∧ (∀ r ∈ M ++ [(F, G)], inU r.1 ∧ inU r.2) ∧ (0 ≤ F ∧ F ≤ 4611686018427387903) ∧ (∃ M', M ++ [(F, G)] = (F0, v1) :: M' ∧ prs N F0 ys4 = preR M' (prs k F y)) ∧ Re wr rb a m cap xs q y ∧ Keeps (fun k => k = rb) w wr ∧ Blk wr rs #[.int .u64 0, .int .u64 0, .int .u64 0, .bool false, .int .u64 0, .int .u64 0, .int .u64 0, .slice none 0 0, .slice none 0 0, .bool false, .bool false, .int .i64 0] 32 ∧ base ≤ wr.heap.size)
     case atStart => exact ⟨0, _, _, [], F0, v1, _, _, rfl, rfl, by omega, rfl, HW0.out, (fun r hr => by simp at hr; subst hr; exact ⟨⟨HF0.out.1, by have h1 := HF0.out; have h2 := HV1.out; show F0 ≤ _; omega⟩, HU1.out⟩), by have h1 := HF0.out; have h2 := HV1.out; omega, ⟨[], rfl, (preR_nil _).symm⟩, HRA.out, HKA.out, HZA.out, hsz0⟩
     case round =>
      obtain ⟨i, al, cl, M, F, G, q, y, rfl, rfl, hki, hM, hra, hin, hF, ⟨M', hMM, hpr⟩, hre, hkw, hbw, hsz⟩ := hrel
      obtain ⟨g, off, rfl, c0⟩ := hra.last hM
      have HKI := Lib.hid hki
      have HM1 := Lib.hid hM
      have HRA1 := Lib.hid hra
      have HIN := Lib.hid hin
      have HF := Lib.hid hF
      have HMM := Lib.hid hMM
      have HPR := Lib.hid hpr
      have HRE := Lib.hid hre
      have HKW := Lib.hid hkw
      have HBW := Lib.hid hbw
      have HSZ := Lib.hid hsz
      clear hki hM hra hin hF hMM hpr hre hkw hbw hsz
      have hgb : base ≤ g := (HRA1.out.ge g rfl).1
      have hgr : g ≠ rb := by have := HC.out; omega
      by_cases hi : i < N
      ·obtain ⟨k, rfl⟩ : ∃ k, gk = k + 1 := ⟨gk - 1, by have := HKI.out; omega⟩
       have hi0 : (0 : Int) ≤ (i : Int) := by omega
       have hi1 : (i : Int) < ((i : Int) + 1) := by omega
       have hiN : decide ((i : Int) < (N : Int)) = true := by simp; omega
       have hi32 : (i : Int) < 32 := by have := HM.out; omega
       go_upto_region 7 with fail
       refine wp_region_held (S := fun w' : World => w'.cell? ⟨g, off + i * 2, none⟩ = some (.int .u64 F) ∧ w'.cell? ⟨g, off + i * 2, none⟩ = some (.int .u64 F)) (by kernel_rfl) ?_
       change wpAnyH _ _ _ _ _ _ _ _ (World.drew _)
       have hS : (fun w' : World => w'.cell? ⟨g, off + i * 2, none⟩ = some (.int .u64 F) ∧ w'.cell? ⟨g, off + i * 2, none⟩ = some (.int .u64 F)) wr.drew := ⟨c0, c0⟩
       refine tH (i := 0) (v := ?_) rfl ?_ hS ?_
       rotate_left
       ·intro wz ⟨_, _⟩; go_simp; try with_reducible rfl
       refine tH (i := 1) (v := ?_) rfl ?_ hS ?_
       rotate_left
       ·intro wz ⟨_, _⟩; go_simp; try with_reducible rfl
       refine tH (i := 2) (v := ?_) rfl ?_ hS ?_
       rotate_left
       ·intro wz ⟨_, _⟩; go_simp; try with_reducible rfl
       refine tH (i := 3) (v := ?_) rfl ?_ hS ?_
       rotate_left
       ·intro wz ⟨_, _⟩; go_simp; try with_reducible rfl
       refine tH (i := 4) (v := ?_) rfl ?_ hS ?_
       rotate_left
       ·intro wz ⟨_, _⟩; go_simp; try with_reducible rfl
       refine tH (i := 5) (v := ?_) rfl ?_ hS ?_
       rotate_left
       ·intro wz ⟨_, _⟩; go_simp; try with_reducible rfl
       refine held_callP (i := 6) 47 #[.pointer (some ⟨rb, 0, none⟩)] rfl (by kernel_rfl) (by kernel_rfl) (by kernel_rfl) ?_
       have HRd := Lib.hid (HRE.out.same ((Keeps.refl _ _).drew))
       refine (num_any rb a m cap xs q y wr.drew HRd.out).mono ?_
       rintro e w5 ⟨hk5, hr5⟩
       have hkd : Keeps (fun k => k = rb) wr w5 := (Keeps.refl _ wr).drew.trans hk5
       have HK5 := Lib.hid (HKW.out.trans hkd)
       have HB5 := Lib.hid (hkd.blk HBW.out HNZ.out)
       have HA5 := Lib.hid (HRA1.out.keep hkd (fun b hb h => by cases hb; exact hgr h))
       have c5 : w5.cell? ⟨g, off + i * 2, none⟩ = some (.int .u64 F) := by rw [← c0]; exact World.cell?_of_block (hkd.block g (HRA1.out.ge g rfl).2 hgr)
       have HS5 : Hid (wr.heap.size ≤ w5.heap.size) := Lib.hid hkd.size
       clear hk5 hkd c0
       cases hq5 : pn y with
       | none =>
        rw [hq5] at hr5
        have hr' : e = .panicked [{ v := stopV, recovered := false }] := hr5
        subst hr'
        have HD : Hid (ackD ys = none) := Lib.hid (by rw [HDD.out, HPR.out, prs_n, pb_none _ hq5, preR_none]; rfl)
        refine Or.inr ⟨_, rfl, ?_⟩
        clear hS hq5 hr5 c5
        go_wp2_with fail
        refine ⟨rfl, ?_⟩
        rw [HD.out]
        exact ReP.panic HK5.out
       | some x =>
        obtain ⟨v5, y5⟩ := x
        rw [hq5] at hr5
        obtain ⟨q5, val, rfl, rfl, hr5⟩ := hr5
        have hbd := pn_bd hq5
        have HV5 : Hid (0 ≤ v5 ∧ v5 ≤ 4611686018427387903) := Lib.hid ⟨hbd.1, hbd.2.1⟩
        have HQ5 := Lib.hid hq5
        have HR5 := Lib.hid hr5
        refine Or.inl ⟨_, rfl, ⟨c5, c5⟩, ?_⟩
        clear hS hq5 hr5 hbd
        have hS : (fun w' : World => w'.cell? ⟨g, off + i * 2, none⟩ = some (.int .u64 F) ∧ w'.cell? ⟨g, off + i * 2, none⟩ = some (.int .u64 F)) w5 := ⟨c5, c5⟩
        by_cases hg1 : v5 ≤ F
        rotate_left
        ·have HG1 : Hid (F < v5 + 2) := Lib.hid (by omega)
         have hgn : F < v5 := by omega
         refine held_callP (i := 7) 59 #[.int .u64 F, .int .u64 v5] rfl (by kernel_rfl) (by kernel_rfl) (by kernel_rfl) ?_
         refine (less_no F v5 _ hgn).mono ?_
         rintro e w' ⟨rfl, rfl⟩
         refine Or.inr ⟨_, rfl, ?_⟩
         have HD : Hid (ackD ys = none) := Lib.hid (by rw [HDD.out, HPR.out, prs_n, pb_some _ HQ5.out, if_pos HG1.out, preR_none]; rfl)
         clear hS c5 hg1 hgn
         go_wp2_with fail
         refine ⟨rfl, ?_⟩
         rw [HD.out]
         exact ReP.panic HK5.out
        refine held_callP (i := 7) 59 #[.int .u64 F, .int .u64 v5] rfl (by kernel_rfl) (by kernel_rfl) (by kernel_rfl) ?_
        refine (less_ok F v5 _ HV5.out.1 (by have := HF.out; omega) hg1).mono ?_
        rintro e w' ⟨rfl, rfl⟩
        refine Or.inl ⟨_, rfl, ⟨c5, c5⟩, ?_⟩
        by_cases hg2 : 2 ≤ F - v5
        rotate_left
        ·have HG1 : Hid (F < v5 + 2) := Lib.hid (by omega)
         have hgn : F - v5 < 2 := by omega
         refine held_callP (i := 8) 59 #[.int .u64 (F - v5), .int .u64 2] rfl (by kernel_rfl) (by kernel_rfl) (by kernel_rfl) ?_
         refine (less_no (F - v5) 2 _ hgn).mono ?_
         rintro e w' ⟨rfl, rfl⟩
         refine Or.inr ⟨_, rfl, ?_⟩
         have HD : Hid (ackD ys = none) := Lib.hid (by rw [HDD.out, HPR.out, prs_n, pb_some _ HQ5.out, if_pos HG1.out, preR_none]; rfl)
         clear hS c5 hg1 hg2 hgn
         go_wp2_with fail
         refine ⟨rfl, ?_⟩
         rw [HD.out]
         exact ReP.panic HK5.out
        refine held_callP (i := 8) 59 #[.int .u64 (F - v5), .int .u64 2] rfl (by kernel_rfl) (by kernel_rfl) (by kernel_rfl) ?_
        refine (less_ok (F - v5) 2 _ (by omega) (by have := HF.out; have := HV5.out; omega) hg2).mono ?_
        rintro e w' ⟨rfl, rfl⟩
        refine Or.inl ⟨_, rfl, ⟨c5, c5⟩, ?_⟩
        refine tH (i := 9) (v := ?_) rfl ?_ hS ?_
        rotate_left
        ·intro wz ⟨_, _⟩; go_simp; try with_reducible rfl
        refine wpAnyH_done (by kernel_rfl) ?_ _
        have HG1 : Hid (v5 + 2 ≤ F) := Lib.hid (by omega)
        clear hS c5 hg1 hg2
        obtain ⟨E, hE⟩ : ∃ E, F - v5 - 2 = E := ⟨_, rfl⟩
        rw [hE]
        have HE := Lib.hid hE
        have hE0 : 0 ≤ E := by have := HG1.out; omega
        have hE1 : E ≤ 4611686018427387903 := by have := HF.out; have := HV5.out; omega
        have HE0 : Hid (0 ≤ E ∧ E ≤ 4611686018427387903) := Lib.hid ⟨hE0, hE1⟩
        clear hE hE0 hE1
        refine thenX_named ?_
        intro w5b hw5b
        subst hw5b
        go_wp2_with fail
        refine (num_any rb a m cap xs q5 y5 w5 HR5.out).mono ?_
        rintro e w6 ⟨hk6, hr6⟩
        have HK6 := Lib.hid (HK5.out.trans hk6)
        have HB6 := Lib.hid (hk6.blk HB5.out HNZ.out)
        have HA6 := Lib.hid (HA5.out.keep hk6 (fun b hb h => by cases hb; exact hgr h))
        have hs6 : base ≤ w6.heap.size := by have h1 := hk6.size; have h2 := HS5.out; have h3 := HSZ.out; omega
        clear hk6
        cases hq6 : pn y5 with
        | none =>
         rw [hq6] at hr6
         have hr' : e = .panicked [{ v := stopV, recovered := false }] := hr6
         subst hr'
         have HD : Hid (ackD ys = none) := Lib.hid (by rw [HDD.out, HPR.out, prs_n, pb_some _ HQ5.out, if_neg (by have := HG1.out; omega), pb_none _ hq6, preR_none]; rfl)
         clear hq6 hr6
         go_wp2_with fail
         refine ⟨rfl, ?_⟩
         rw [HD.out]
         exact ReP.panic HK6.out
        | some x =>
         obtain ⟨v6, y6⟩ := x
         rw [hq6] at hr6
         obtain ⟨q6, val, rfl, rfl, hr6⟩ := hr6
         have hbd := pn_bd hq6
         have HV6 : Hid (0 ≤ v6 ∧ v6 ≤ 4611686018427387903) := Lib.hid ⟨hbd.1, hbd.2.1⟩
         have HQ6 := Lib.hid hq6
         have HR6 := Lib.hid hr6
         clear hq6 hr6 hbd
         by_cases hg3 : v6 ≤ E
         rotate_left
         ·have hgn : E < v6 := by omega
          have HGN := Lib.hid hgn
          clear hg3
          go_wp2_with fail
          refine (less_no E v6 _ hgn).mono ?_
          rintro e w' ⟨rfl, rfl⟩
          clear hgn
          have HD : Hid (ackD ys = none) := Lib.hid (by
           have hn : ¬ F < v5 + 2 := by have := HG1.out; omega
           have hm : F - v5 - 2 < v6 := by have := HE.out; have := HGN.out; omega
           rw [HDD.out, HPR.out, prs_n, pb_some _ HQ5.out, if_neg hn, pb_some _ HQ6.out, if_pos hm, preR_none]; rfl)
          go_wp2_with fail
          refine ⟨rfl, ?_⟩
          rw [HD.out]
          exact ReP.panic HK6.out
         have HG3 := Lib.hid hg3
         go_wp2_with fail
         refine (less_ok E v6 _ HV6.out.1 (by have := HE0.out; omega) hg3).mono ?_
         rintro e w' ⟨rfl, rfl⟩
         clear hg3
         go_wp2_with (at_builtin; refine halt ?_)
         refine Halted.go (wpList_ra w6 rfl _ _ rfl base _ (i + 1) cl (M ++ [(F, G)]) rfl HA6.out (E - v6) E rfl (by omega) hs6 ?_)
         intro a7 c7 w7 hra7 hk7 hn7
         have HA7 := Lib.hid hra7
         have HR7 := Lib.hid (HR6.out.keep hk7 (mine_ge HC.out.2.1) (fun b hb => mine_ge (by have h1 := HLT.out b hb; have h2 := HC.out.2.2; omega)))
         have HK7 : Hid (Keeps (fun k => k = rb) w w7) := Lib.hid (Keeps.trans2 HK6.out hk7 (fun x hx hS => absurd hS.1 (by have h2 := HC.out.2.2; omega)))
         have HB7 := Lib.hid (hk7.blk HB6.out (mine_ge HC.out.1))
         have hs7 : base ≤ w7.heap.size := Nat.le_trans hs6 hk7.size
         clear hra7 hk7 hn7
         have HP7 : Hid (prs N F0 ys4 = preR (M' ++ [(E - v6, E)]) (prs k (E - v6) y6)) := Lib.hid (by
          have hn : ¬ F < v5 + 2 := by have := HG1.out; omega
          have hm : ¬ F - v5 - 2 < v6 := by have := HE.out; have := HG3.out; omega
          have he := HE.out
          rw [HPR.out, prs_n, pb_some _ HQ5.out, if_neg hn, pb_some _ HQ6.out, if_neg hm, preR_cons, he])
         have HN7 : Hid (∀ r ∈ M ++ [(F, G)] ++ [(E - v6, E)], inU r.1 ∧ inU r.2) := Lib.hid (fun r hr => by
          rcases List.mem_append.1 hr with h | h
          ·exact HIN.out r h
          ·simp only [List.mem_cons, List.not_mem_nil, or_false] at h
           subst h
           have h1 := HE0.out
           have h2 := HV6.out
           have h3 := HG3.out
           exact ⟨⟨by show 0 ≤ E - v6; omega, by show E - v6 ≤ _; omega⟩, ⟨by show 0 ≤ E; omega, by show E ≤ _; omega⟩⟩)
         have HF7 : Hid (0 ≤ E - v6 ∧ E - v6 ≤ 4611686018427387903) := Lib.hid (by
          have h1 := HE0.out
          have h2 := HV6.out
          have h3 := HG3.out
          omega)
         go_wp2_with fail
         go_roundg k
         case measure => omega
         case rel => exact ⟨i + 1, a7, c7, M ++ [(F, G)], E - v6, E, q6, y6, rfl, by go_num, by have := HKI.out; omega, by simp [HM1.out], HA7.out, HN7.out, HF7.out, ⟨M' ++ [(E - v6, E)], by rw [HMM.out, List.cons_append], HP7.out⟩, HR7.out, HK7.out, HB7.out, hs7⟩
      ·have hgk : gk = 0 := by have := HKI.out; omega
       have hiN : decide ((i : Int) < (N : Int)) = false := by simp; omega
       have HD : Hid (ackD ys = some (⟨2, 0, 0, false, 0, 0, v2, (F0, v1) :: M', [], false, false, 0⟩, y)) := Lib.hid (by
        rw [HDD.out, HPR.out, hgk, prs_0]
        simp [preR, pb])
       clear hgk
       obtain ⟨t0, t1, t2, t3, t4, t5, t6, t7, t8, t9, t10, t11⟩ := q12_cells HBW.out
       obtain ⟨z0, z1, z2, z3, z4, z5, z6, z7, z8, z9, z10, z11⟩ := q12_free HBW.out
       go_wp2_with fail
       refine bodyPost_ret (v := ?_) ?_ (by kernel_rfl) ?_
       rotate_left
       ·exact ack_results _ _ rs (by kernel_rfl) (qs_blk HBW.out _ _ _ _ _ _ _ _ _ _ _ _)
       refine ⟨qs_keep HKW.out (fun h => absurd h (by have := HRS.out; omega)) _ _ _ _ _ _ _ _ _ _ _ _, ?_⟩
       rw [HD.out]
       have HLA := Lib.hid (HRA1.out.keep (qs_keep (b := rs) (S := fun k => k = rs) (Keeps.refl _ _) (fun _ => rfl) (.int .u64 2) (.int .u64 0) (.int .u64 0) (.bool false) (.int .u64 0) (.int .u64 0) (.int .u64 v2) (.slice (some ⟨g, off, none⟩) (i + 1) cl) (.slice none 0 0) (.bool false) (.bool false) (.int .i64 0)) (fun b hb h => by cases hb; have h1 := HC.out.1; dsimp only at h; omega))
       refine ⟨q, _, rfl, ⟨⟨⟨2, 0, 0, false, 0, 0, v2, (F0, v1) :: M', [], false, false, 0⟩, some ⟨g, off, none⟩, i + 1, cl, none, 0, 0⟩, rfl, rfl, ?_⟩, HRE.out.keep (qs_keep (S := fun k => k = rs) (Keeps.refl _ _) (fun _ => rfl) _ _ _ _ _ _ _ _ _ _ _ _) (fun h => HNZ.out h.symm) (fun b hb h => by have h1 := HLT.out b hb; have h2 := HRS.out; omega)⟩
       have hrv := HLA.out.rv
       rw [HMM.out] at hrv
       refine ⟨⟨By.nil _, hrv, ⟨⟨by show (0 : Int) ≤ 2; omega, by show (2 : Int) ≤ _; omega⟩, inU_0, inU_0, inU_0, inU_0, HU2.out, fun r hr => HIN.out r (by rw [HMM.out]; exact hr), (by show (-9223372036854775808 : Int) ≤ 0; omega), (by show (0 : Int) ≤ 9223372036854775807; omega)⟩⟩, fun b hb => (by cases hb), fun b hb => ?_⟩
       have h1 := HLA.out.ge b hb
       exact ⟨by have h2 := HC.out.2.2; omega, h1.2⟩

end Go.Proofs.Ytgfkgmmigbpciaa
