/- The writer of the package qframe: stream, other. -/
import Derived.Test.YtgfkgmmigbpciaaQfA
import Derived.Deep.RegionHeld3
namespace Go.Proofs.Ytgfkgmmigbpciaa
set_option linter.unusedSimpArgs false
set_option linter.unusedVariables false
open Go.RowKit Go.Deep

theorem WrP.ends {B wb : Nat} {a : Option Addr} {r : Option (List UInt8)} {w : World} {e : Ending} {w' : World} (h : WrP B wb a r w e w') : e = .returned (.tuple #[]) ∨ e = .panicked [{ v := stopV, recovered := false }] := by
 obtain ⟨_, h2⟩ := h
 cases r with
 | none => exact .inr h2
 | some ys => exact .inl h2.1
theorem WrP.whole {B wb : Nat} {a a1 : Option Addr} {r : Option (List UInt8)} {w w1 wi : World} {e : Ending} {w' : World} (h0 : Keeps (wrS B wb a) w w1) (hk : Keeps (wrS B wb a) w1 wi) (hn : Near B w1 a a1) {fb : Nat} (_ : fb ≤ w1.heap.size) (h : WrP B wb a1 r wi e w') : WrP B wb a r w e w' :=
 WrP.after (WrP.after h hk hn) h0 (Near.refl B w a)
theorem encO_nums {xs : List UInt8} {c : Qc} {l : List Int} (h : c.t ≠ 0) (hp : planQ c = some (l, [])) : encO xs c = numsO xs l := by
 rw [encO_plan h hp]
 cases numsO xs l with
 | none => rfl
 | some zs => simp [thenO]
theorem numsO_append (xs : List UInt8) (l m : List Int) : numsO xs (l ++ m) = match numsO xs l with
  | some zs => numsO zs m
  | none => none := by
 cases h : varsOK l with
 | false => rw [numsO_no (by rw [varsOK_append, h]; rfl), numsO_no h]
 | true =>
  rw [numsO_yes h]
  cases h2 : varsOK m with
  | false => rw [numsO_no (by rw [varsOK_append, h, h2]; rfl)]; simp [numsO_no h2]
  | true => rw [numsO_yes (by rw [varsOK_append, h, h2]; rfl)]; simp [numsO_yes h2, varsE_append]
theorem inU_small {x : Int} (h0 : 0 ≤ x) (h1 : x ≤ 1000) : inU x := ⟨h0, by omega⟩
theorem thenO_none (ys : List UInt8) : thenO none ys = none := rfl
theorem thenO_some (zs ys : List UInt8) : thenO (some zs) ys = some (zs ++ ys) := rfl

set_option maxRecDepth 100000 in
set_option maxHeartbeats 3200000 in
theorem stream_any (B wb : Nat) (a : Option Addr) (n c : Nat) (xs : List UInt8) (f : Qf) (w : World) (hw : Wr B w wb a n c xs) (hf : ∀ w', Below B w w' → Qin w' f) (ht : f.c.t = 8) (hn : n ≤ 10000000) (hn8 : f.n ≤ 1000000) (hB : B ≤ w.heap.size) :
  Calls Try.prog 41 #[.pointer (some ⟨wb, 0, none⟩), .agg f.cs] w (WrP B wb a (encO xs f.c) w) := by
 have HW := Lib.hid hw
 have HF := Lib.hid hf
 have HWF := Lib.hid (hf w (Below.refl _ _)).wf
 have HXL := Lib.hid (hf w (Below.refl _ _)).b.1
 have HK0 : Hid (Keeps (fun _ => False) w (w.alloc (.cells f.cs 32 (0, 0)))) := Lib.hid ((Keeps.refl _ w).alloc _)
 have HL1 := Lib.hid (Blk.new w f.cs 32)
 clear hw hf
 have HT := Lib.hid ht
 have HPL := Lib.hid (plan_8 ht)
 clear ht
 unfold Qf.cs at HK0 HL1 ⊢
 have HW1 := Lib.hid (HW.out.same HK0.out)
 go_enter Try.func41, Try.ntmps41
 go_upto_region 1 with fail
 refine wp_named ?_
 intro w1 hw1
 rw [hw1] at HK0 HL1 HW1
 have hs1 : w.heap.size ≤ w1.heap.size := HK0.out.size
 have HFR : Hid (¬ wrS B wb a w.heap.size) := Lib.hid (HW.out.fresh (Nat.le_refl _))
 have HB1 : Hid (Below B w w1) := Lib.hid (Keeps.below (Below.refl B w) HK0.out hB (fun _ h => False.elim h))
 have HK1 : Hid (Keeps (wrS B wb a) w1 w1) := Lib.hid (Keeps.refl _ _)
 have HN1 : Hid (Near B w1 a a) := Lib.hid (Near.refl B w1 a)
 have HKW : Hid (Keeps (wrS B wb a) w w1) := Lib.hid HK0.out.to
 clear hw1
 generalize w.heap.size = fb at *
 have hB1 : B ≤ w1.heap.size := by omega
 have q2 : w1.cell? ⟨fb, 2, none⟩ = some (.int .u64 f.c.off) := HL1.out.cell 2
 have q8 : w1.cell? ⟨fb, 8, none⟩ = some (.slice f.a f.n f.cap) := HL1.out.cell 8
 go_wp2_with fail
 refine (end_any f.c.off f.n w1 HWF.out.off.1 HWF.out.off.2 hn8).mono ?_
 rintro e w' ⟨he, rfl⟩
 cases hen : endB f.c.off f.n with
 | false =>
  rw [hen] at he
  have he' : e = .panicked [{ v := stopV, recovered := false }] := he
  subst he'
  have HEN := Lib.hid hen
  clear hen he
  go_wp2_with fail
  refine ⟨rfl, ?_⟩
  rw [encO_no (by rw [HT.out]; decide) (by rw [HPL.out, ← HXL.out, HEN.out]; rfl)]
  exact WrP.panic (Keeps.trans2 HKW.out HK1.out (fun _ _ h => h))
 | true =>
  rw [hen] at he
  have he' : e = .returned (.tuple #[]) := he
  subst he'
  have HEN := Lib.hid hen
  clear hen he q2 q8
  have q1 : w1.cell? ⟨fb, 1, none⟩ = some (.int .u64 f.c.id) := HL1.out.cell 1
  have q2 : w1.cell? ⟨fb, 2, none⟩ = some (.int .u64 f.c.off) := HL1.out.cell 2
  have q3 : w1.cell? ⟨fb, 3, none⟩ = some (.bool f.c.fin) := HL1.out.cell 3
  have hb2 := b2i_bd f.c.fin
  go_wp2_with fail
  refine (flag_any 10 f.c.fin w1 (by omega) (by omega)).mono ?_
  rintro e w' ⟨rfl, rfl⟩
  have hor := strT_or f.c.fin
  by_cases ho : f.c.off = 0
  ·have hob : (f.c.off != 0) = false := by simp [ho]
   have HO := Lib.hid ho
   have HE8 : Hid (encO xs f.c = thenO (numsO xs [10 + b2i f.c.fin, f.c.id]) (varsE [(f.n : Int)] ++ f.c.xs)) := Lib.hid (by
    refine encO_text (by rw [HT.out]; decide) (l' := [strT f.c, f.c.id, (f.c.xs.length : Int)]) (by rw [HPL.out, ← HXL.out, HEN.out, if_pos rfl, if_pos HO.out]) (by rw [strT_0 HO.out, HXL.out]; rfl) hn8)
   clear ho
   go_wp2_with fail
   clear q1 q2 q3 hor
   refine (nums_new B wb a n c xs _ 2 [10 + b2i f.c.fin, f.c.id] w1 HW1.out (Uv.two' w1 _ (10 + b2i f.c.fin) f.c.id (inU_small (by omega) (by omega)) HWF.out.id) (by omega) (by omega) hB1).mono ?_
   rintro e w2 ⟨hk, hr⟩
   cases hv : varsOK [10 + b2i f.c.fin, f.c.id] with
   | false =>
    rw [numsO_no hv] at hr
    have hr' : e = .panicked [{ v := stopV, recovered := false }] := hr
    subst hr'
    have HV := Lib.hid hv
    have HK2 := Lib.hid (wrS_trans HK1.out HN1.out hk)
    clear hv hr hk
    go_wp2_with fail
    refine ⟨rfl, ?_⟩
    rw [HE8.out, numsO_no HV.out, thenO_none]
    exact WrP.panic (Keeps.trans2 HKW.out HK2.out (fun _ _ h => h))
   | true =>
    rw [numsO_yes hv] at hr
    obtain ⟨rfl, a2, n2, c2, hw2, hn2⟩ := hr
    have HV2 := Lib.hid hv
    have HK2 := Lib.hid (wrS_trans HK1.out HN1.out hk)
    have HN2 := Lib.hid (wrS_near HN1.out HK1.out hn2)
    have HW2 := Lib.hid hw2
    have HL2 := Lib.hid (HK2.out.blk HL1.out HFR.out)
    have HB2 : Hid (Below B w w2) := Lib.hid (wrS_below HK2.out HB1.out hB1 HW.out.le)
    have hB2 : B ≤ w2.heap.size := by have := HK2.out.size; omega
    have hln2 : n2 ≤ n + 16 := by
     have h1 := hw2.len
     have h2 := HW1.out.len
     have h3 := numsO_len (numsO_yes (xs := xs) hv)
     simp only [List.length_cons, List.length_nil] at h3
     omega
    clear hv hk hw2 hn2
    have q8 : w2.cell? ⟨fb, 8, none⟩ = some (.slice f.a f.n f.cap) := HL2.out.cell 8
    go_wp2_with fail
    clear q8
    refine (text_any B wb a2 n2 c2 (xs ++ varsE [10 + b2i f.c.fin, f.c.id]) f.a f.n f.cap f.c.xs w2 HW2.out (fun w' h => (HF.out w' (HB2.out.trans h)).b) (by omega) hn8 hB2).mono ?_
    rintro e w9 h
    have HG : Hid (WrP B wb a (encO xs f.c) w e w9) := Lib.hid (by rw [HE8.out, numsO_yes HV2.out, thenO_some]; exact WrP.whole HKW.out HK2.out HN2.out hs1 h)
    rcases h.ends with rfl | rfl
    ·clear h
     go_wp2_with fail
     go_end0
     exact HG.out
    ·clear h
     go_wp2_with fail
     exact ⟨rfl, HG.out⟩
  ·have hob : (f.c.off != 0) = true := by simpa using ho
   have HO := Lib.hid ho
   have HE8 : Hid (encO xs f.c = thenO (numsO xs [14 + b2i f.c.fin, f.c.id, f.c.off]) (varsE [(f.n : Int)] ++ f.c.xs)) := Lib.hid (by
    refine encO_text (by rw [HT.out]; decide) (l' := [strT f.c, f.c.id, f.c.off, (f.c.xs.length : Int)]) (by rw [HPL.out, ← HXL.out, HEN.out, if_pos rfl, if_neg HO.out]) (by rw [strT_1 HO.out, HXL.out]; rfl) hn8)
   clear ho
   go_wp2_with fail
   clear q1 q2 q3 hor
   refine (nums_new B wb a n c xs _ 3 [14 + b2i f.c.fin, f.c.id, f.c.off] w1 HW1.out (Uv.three w1 _ (14 + b2i f.c.fin) f.c.id f.c.off (inU_small (by omega) (by omega)) HWF.out.id HWF.out.off) (by omega) (by omega) hB1).mono ?_
   rintro e w2 ⟨hk, hr⟩
   cases hv : varsOK [14 + b2i f.c.fin, f.c.id, f.c.off] with
   | false =>
    rw [numsO_no hv] at hr
    have hr' : e = .panicked [{ v := stopV, recovered := false }] := hr
    subst hr'
    have HV := Lib.hid hv
    have HK2 := Lib.hid (wrS_trans HK1.out HN1.out hk)
    clear hv hr hk
    go_wp2_with fail
    refine ⟨rfl, ?_⟩
    rw [HE8.out, numsO_no HV.out, thenO_none]
    exact WrP.panic (Keeps.trans2 HKW.out HK2.out (fun _ _ h => h))
   | true =>
    rw [numsO_yes hv] at hr
    obtain ⟨rfl, a2, n2, c2, hw2, hn2⟩ := hr
    have HV2 := Lib.hid hv
    have HK2 := Lib.hid (wrS_trans HK1.out HN1.out hk)
    have HN2 := Lib.hid (wrS_near HN1.out HK1.out hn2)
    have HW2 := Lib.hid hw2
    have HL2 := Lib.hid (HK2.out.blk HL1.out HFR.out)
    have HB2 : Hid (Below B w w2) := Lib.hid (wrS_below HK2.out HB1.out hB1 HW.out.le)
    have hB2 : B ≤ w2.heap.size := by have := HK2.out.size; omega
    have hln2 : n2 ≤ n + 24 := by
     have h1 := hw2.len
     have h2 := HW1.out.len
     have h3 := numsO_len (numsO_yes (xs := xs) hv)
     simp only [List.length_cons, List.length_nil] at h3
     omega
    clear hv hk hw2 hn2
    have q8 : w2.cell? ⟨fb, 8, none⟩ = some (.slice f.a f.n f.cap) := HL2.out.cell 8
    go_wp2_with fail
    clear q8
    refine (text_any B wb a2 n2 c2 (xs ++ varsE [14 + b2i f.c.fin, f.c.id, f.c.off]) f.a f.n f.cap f.c.xs w2 HW2.out (fun w' h => (HF.out w' (HB2.out.trans h)).b) (by omega) hn8 hB2).mono ?_
    rintro e w9 h
    have HG : Hid (WrP B wb a (encO xs f.c) w e w9) := Lib.hid (by rw [HE8.out, numsO_yes HV2.out, thenO_some]; exact WrP.whole HKW.out HK2.out HN2.out hs1 h)
    rcases h.ends with rfl | rfl
    ·clear h
     go_wp2_with fail
     go_end0
     exact HG.out
    ·clear h
     go_wp2_with fail
     exact ⟨rfl, HG.out⟩

end Go.Proofs.Ytgfkgmmigbpciaa
