import Derived.Test.YtgfkgmmigbpciaaQrUa
import Derived.Test.YtgfkgmmigbpciaaQrUb
import Derived.Test.YtgfkgmmigbpciaaQrUc
import Derived.Test.YtgfkgmmigbpciaaQrUd
import Derived.Test.YtgfkgmmigbpciaaQrZ
import Derived.Test.YtgfkgmmigbpciaaQrA
import Derived.Test.YtgfkgmmigbpciaaQrO
import Derived.Test.YtgfkgmmigbpciaaQrMl
import Derived.Test.YtgfkgmmigbpciaaQfM
/- ReadFrame of the package bifoldref17, whole. -/
namespace Go.Proofs.Ytgfkgmmigbpciaa
set_option linter.unusedSimpArgs false
set_option linter.unusedVariables false
open Go.RowKit Go.Deep

theorem rf_all (a : Option Addr) (m cap : Nat) (xs : List UInt8) (t : Int) (ys1 : List UInt8) (w : World) (hb : By w a m cap xs) (hm : m ≤ 1000000) (hlt : ∀ b, a.map (·.block) = some b → b < w.heap.size) (hq : pn xs = some (t, ys1)) (hl : rvL xs = varLenV t) (hc : xs.headD 0 ≠ 0) (h0 : t ≠ 0) :
  Calls Try.prog 18 #[.slice a m cap] w (ReadP m (decT t ys1) w) := by
 refine rfR.2 a m cap xs t ys1 w hb hm hlt hq hl hc h0 fun ba off C V p1 rs rb fb DD w3 F => ?_
 by_cases g1 : t < 8
 ·exact rt_a F g1 h0
 by_cases g2 : t < 12
 ·exact rt_b1 F (by omega)
 by_cases g3 : t < 16
 ·exact rt_b2 F (by omega)
 by_cases g4 : t < 19
 ·exact rt_c1 F (by omega)
 by_cases g5 : t < 22
 ·exact rt_c2 F (by omega)
 by_cases g6 : t < 24
 ·exact rt_c3 F (by omega)
 by_cases g7 : t < 26
 ·exact rt_d1 F (by omega)
 by_cases g8 : t < 28
 ·exact rt_d2 F (by omega)
 ·exact rt_d3 F (by omega)

theorem rreadframe_any (a : Option Addr) (m cap : Nat) (xs : List UInt8) (w : World) (hb : By w a m cap xs) (hm : m ≤ 1000000) (hlt : ∀ b, a.map (·.block) = some b → b < w.heap.size) :
  Calls Try.prog 18 #[.slice a m cap] w (ReadP m (decQ xs) w) := by
 cases xs with
 | nil =>
  have h0 : m = 0 := hb.1
  subst h0
  rw [decQ_nil]
  exact rf_nil a cap w
 | cons c rest =>
  by_cases hc : c = 0
  ·subst hc
   rw [decQ_pad]
   exact rf_pad a m cap rest w hb hm hlt
  ·have hh : (c :: rest).headD 0 ≠ 0 := hc
   cases hq : pn (c :: rest) with
   | none =>
    have hD : decQ (c :: rest) = none := by unfold decQ; rw [pb_none _ hq]
    rw [hD]
    exact rf_bad a m cap _ w hb hm hlt hh (fun t y h => by rw [hq] at h; cases h)
   | some x =>
    obtain ⟨t, ys1⟩ := x
    by_cases hl : rvL (c :: rest) = varLenV t
    ·have hD : decQ (c :: rest) = decT t ys1 := by unfold decQ; rw [pb_some _ hq, if_pos hl]
     rw [hD]
     by_cases h0 : t = 0
     ·subst h0
      obtain ⟨r2, h⟩ := pn_nought hq hl
      cases h
      exact absurd rfl hc
     exact rf_all a m cap _ t ys1 w hb hm hlt hq hl hh h0
    ·have hD : decQ (c :: rest) = none := by unfold decQ; rw [pb_some _ hq, if_neg hl]
     rw [hD]
     exact rf_bad a m cap _ w hb hm hlt hh (fun t2 y h => by rw [hq] at h; cases h; exact hl)

end Go.Proofs.Ytgfkgmmigbpciaa

/- All of the package bifoldref17. -/
namespace Go.Proofs.Ytgfkgmmigbpciaa
set_option linter.unusedSimpArgs false
set_option linter.unusedVariables false
open Go.RowKit Go.Deep

/-- What is left is an end of what was there. -/
def SfO {α : Type} (ys : List UInt8) (r : Option (α × List UInt8)) : Prop := ∀ x, r = some x → ∃ k, x.2 = ys.drop k
theorem SfO.none {α : Type} (ys : List UInt8) : SfO (α := α) ys none := fun x h => by cases h
theorem SfO.some {α : Type} {ys : List UInt8} (v : α) (y : List UInt8) (h : ∃ k, y = ys.drop k) : SfO ys (some (v, y)) := fun x hx => by cases hx; exact h
theorem SfO.pn {ys y : List UInt8} (h : ∃ k, y = ys.drop k) : SfO ys (pn y) := fun x hx => by
 obtain ⟨v, z⟩ := x
 obtain ⟨_, _, _, k, _, _, hk, _⟩ := pn_bd hx
 obtain ⟨j, rfl⟩ := h
 exact ⟨j + k, by show z = _; rw [hk, List.drop_drop]⟩
theorem SfO.ptk {ys y : List UInt8} {n : Nat} (h : ∃ k, y = ys.drop k) : SfO ys (ptk n y) := fun x hx => by
 obtain ⟨v, z⟩ := x
 obtain ⟨j, rfl⟩ := h
 by_cases hn : n ≤ (ys.drop j).length
 ·rw [ptk_yes hn] at hx
  cases hx
  exact ⟨j + n, by rw [List.drop_drop]⟩
 ·rw [ptk_no hn] at hx; cases hx
theorem SfO.pb {α β : Type} {ys : List UInt8} {r : Option (α × List UInt8)} {f : α → List UInt8 → Option (β × List UInt8)} (h : SfO ys r) (hf : ∀ v y, (∃ k, y = ys.drop k) → SfO ys (f v y)) : SfO ys (pb r f) := by
 unfold Go.Proofs.Ytgfkgmmigbpciaa.pb
 cases r with
 | none => exact SfO.none ys
 | some x => exact hf x.1 x.2 (h x rfl)
theorem SfO.ite {α : Type} {ys : List UInt8} {c : Prop} [Decidable c] {r s : Option (α × List UInt8)} (h1 : SfO ys r) (h2 : SfO ys s) : SfO ys (if c then r else s) := by
 split
 ·exact h1
 ·exact h2
theorem SfO.ptx {ys y : List UInt8} (h : ∃ k, y = ys.drop k) : SfO ys (ptx y) := SfO.pb (SfO.pn h) (fun _ _ hy => SfO.ptk hy)
theorem SfO.prs {ys : List UInt8} : ∀ (k : Nat) (f : Int) (y : List UInt8), (∃ k, y = ys.drop k) → SfO ys (prs k f y)
 | 0, _, _, h => SfO.some _ _ h
 | k + 1, _, _, h => SfO.pb (SfO.pn h) (fun _ _ h1 => SfO.ite (SfO.none ys) (SfO.pb (SfO.pn h1) (fun _ _ h2 => SfO.ite (SfO.none ys) (SfO.pb (SfO.prs k _ _ h2) (fun _ _ h3 => SfO.some _ _ h3)))))
theorem SfO.dec (t : Int) (ys y : List UInt8) (h0 : ∃ k, y = ys.drop k) : SfO ys (decT t y) := by
 unfold decT othD padD oneD ackD resD stoD cryD tokD strD maxD msdD strsD nidD retD chaD cloD
 repeat' first
  | assumption
  | exact SfO.none _
  | (apply SfO.some; first | assumption | (obtain ⟨j, rfl⟩ := h0; exact ⟨j + _, List.drop_drop⟩) | exact ⟨ys.length, by rw [List.drop_length]⟩)
  | apply SfO.ite
  | (apply SfO.pb; · first | (apply SfO.pn; assumption) | (apply SfO.ptk; assumption) | (apply SfO.ptx; assumption) | (apply SfO.prs; assumption) | (apply SfO.ite <;> first | (apply SfO.pn; assumption) | (apply SfO.ptx; assumption) | (apply SfO.some; first | assumption | exact ⟨ys.length, by rw [List.drop_length]⟩)))
  | intro
theorem decQ_end {ys y : List UInt8} {c : Qc} (h : decQ ys = some (c, y)) : y = ys.drop (ys.length - y.length) := by
 have hl := decQ_lt h
 have hs : SfO ys (decQ ys) := by
  unfold decQ
  exact SfO.pb (SfO.pn ⟨0, rfl⟩) (fun t y hy => SfO.ite (SfO.dec t ys y hy) (SfO.none ys))
 obtain ⟨k, hk⟩ := hs _ h
 have hk : y = ys.drop k := hk
 have h2 : y.length = ys.length - k := by rw [hk, List.length_drop]
 by_cases hkl : k ≤ ys.length
 ·rw [show ys.length - y.length = k by omega]; exact hk
 ·have h3 : y.length = 0 := by omega
  rw [h3, Nat.sub_zero, List.drop_length]
  exact List.eq_nil_of_length_eq_zero h3

set_option maxRecDepth 100000 in
set_option maxHeartbeats 6400000 in
theorem rall_any (a : Option Addr) (m cap : Nat) (xs : List UInt8) (w : World) (hb : By w a m cap xs) (hm : m ≤ 1000000) (hlt : ∀ b, a.map (·.block) = some b → b < w.heap.size) :
  Calls Try.prog 16 #[.slice a m cap] w (AllP (allQ xs) w) := by
 have HB := Lib.hid hb
 have HLT := Lib.hid hlt
 have HXM : Hid (xs.length = m) := Lib.hid hb.1.symm
 have hcap := hb.2.le
 by_cases h0 : m = 0
 ·have HD : Hid (allQ xs = none) := Lib.hid (by
   have hx : xs = [] := List.eq_nil_of_length_eq_zero (by rw [HXM.out]; exact h0)
   unfold allQ; rw [if_pos hx])
  subst h0
  clear hb hlt
  go_enter Try.func16, Try.ntmps16
  go_wp2_with fail
  go_returns
  rw [HD.out]
  exact ⟨Below.refl _ _, rfl⟩
 have HD : Hid (allQ xs = appO [] (decsQ (m + 1) xs)) := Lib.hid (by
  have hx : xs ≠ [] := fun e => by have h := HXM.out; rw [e] at h; simp at h; omega
  unfold allQ; rw [if_neg hx, appO_nil, HXM.out])
 have hm1 : ((m : Int) == 0) = false := by simp; omega
 clear hb hlt
 go_enter Try.func16, Try.ntmps16
 go_wp2_with fail
 clear hm1 h0
 go_loopg [0, 4] m (fun k v0 v4 wr => ∃ (a' : Option Addr) (m' cap' : Nat) (y : List UInt8) (al : Option Addr) (cl : Nat) (l : List Qf), v0 = .slice a' m' cap' ∧ v4 = .slice al l.length cl ∧ y.length ≤ k ∧ l.length + y.length ≤ m ∧ By wr a' m' cap' y ∧ (∀ b, a'.map (·.block) = some b → a.map (·.block) = some b) ∧ Qs w.heap.size wr al cl l ∧ allQ xs = appO (l.map (·.c)) (decsQ (k + 1) y) ∧ Below w.heap.size w wr)
 case atStart => exact ⟨a, m, cap, xs, none, 0, [], rfl, rfl, by rw [HXM.out]; exact Nat.le_refl _, by simp [HXM.out], HB.out, fun b hb => hb, Qs.nil _ _, HD.out, Below.refl _ _⟩
 case round =>
  obtain ⟨a', m', cap', y, al, cl, l, rfl, rfl, hyk, hly, hby, hbl, hqs, hde, hkw⟩ := hrel
  have HBY := Lib.hid hby
  have HBL := Lib.hid hbl
  have HLY := Lib.hid hly
  have HQS := Lib.hid hqs
  have HDE := Lib.hid hde
  have HKW := Lib.hid hkw
  have hym : m' = y.length := hby.1
  have HYM := Lib.hid hym
  have hcap' := hby.2.le
  clear hby hbl hly hqs hde hkw
  by_cases hpos : 0 < m'
  ·obtain ⟨k, rfl⟩ : ∃ k, gk = k + 1 := ⟨gk - 1, by omega⟩
   have hd : decide ((0 : Int) < (m' : Int)) = true := by simp; omega
   have hd2 : decide (0 < m') = true := by simp; omega
   have HY0 : Hid (y ≠ []) := Lib.hid (fun e => by rw [e] at hym; simp at hym; omega)
   have HYK : Hid (y.length ≤ k + 1) := Lib.hid hyk
   clear hym hyk
   go_wp2_with fail
   refine (rreadframe_any a' m' cap' y wr HBY.out (by have := HLY.out; have := HYM.out; omega) (fun b hb => Nat.lt_of_lt_of_le (HLT.out b (HBL.out b hb)) HKW.out.size)).mono ?_
   rintro e w5 ⟨hk5, hr5⟩
   have HK5 : Hid (Below w.heap.size w w5) := Lib.hid (HKW.out.trans (hk5.mono HKW.out.size))
   have HQ5 := Lib.hid (HQS.out.keep (Below.keeps hk5) (fun b hb => Or.inr hb))
   have HB5 := Lib.hid (HBY.out.keep (Below.keeps hk5) (fun b hb h => by have h1 := HLT.out b (HBL.out b hb); have h2 := HKW.out.size; omega))
   have HSZ : Hid (w.heap.size ≤ wr.heap.size ∧ wr.heap.size ≤ w5.heap.size) := Lib.hid ⟨HKW.out.size, hk5.size⟩
   clear hk5 hd hd2
   cases hq : decQ y with
   | none =>
    rw [hq] at hr5
    have hr' : e = .returned (.tuple #[.agg #[.int .u64 0, .int .u64 0, .int .u64 0, .bool false, .int .u64 0, .int .u64 0, .int .u64 0, .slice none 0 0, .slice none 0 0, .bool false, .bool false, .int .i64 0], .int .i64 0, .int .i64 30]) := hr5
    subst hr'
    have HN : Hid (allQ xs = none) := Lib.hid (by rw [HDE.out, decs_bad HY0.out hq]; rfl)
    clear hr5 hq
    go_wp2_with fail
    go_returns
    rw [HN.out]
    exact ⟨HK5.out.alloc HK5.out.size _, rfl⟩
   | some x =>
    obtain ⟨c, y2⟩ := x
    rw [hq] at hr5
    obtain ⟨f, hfc, rfl, hqn⟩ := hr5
    have hlt2 := decQ_lt hq
    have HN : Hid (allQ xs = appO ((l ++ [f]).map (·.c)) (decsQ (k + 1) y2)) := Lib.hid (by
     rw [HDE.out, decs_go _ HY0.out hq, List.map_append, List.map_singleton, hfc])
    have HEND : Hid (y.drop (m' - y2.length) = y2) := Lib.hid (by rw [HYM.out]; exact (decQ_end hq).symm)
    have HQN := Lib.hid hqn
    obtain ⟨n, hn⟩ : ∃ n : Nat, m' - y2.length = n := ⟨_, rfl⟩
    have hnm : n ≤ m' := by omega
    have HLEN2 : Hid (y2.length = m' - n ∧ y2.length < y.length) := Lib.hid (by have := HYM.out; omega)
    dsimp only
    rw [hn]
    rw [hn] at HEND
    clear hq hqn hfc hlt2
    unfold Qf.cs
    obtain ⟨inf, hi, hz, hs1, hs2⟩ := info_parts infoQ
    have HI := Lib.hid hi
    have HZ := Lib.hid hz
    have HS1 := Lib.hid hs1
    have HS2 := Lib.hid hs2
    clear hi hz hs1 hs2 hn
    go_upto_region 8 with fail
    refine wp_named ?_
    intro w6 hw6
    have HA6 : Hid (Keeps (fun _ => False) w5 w6) := Lib.hid (by rw [← hw6]; exact (Keeps.refl _ _).alloc _)
    have HF6 : Hid (Blk w6 w5.heap.size f.cs 32) := Lib.hid (by rw [← hw6]; exact Blk.new _ _ _)
    clear hw6
    have HQ6 := Lib.hid (HQ5.out.keep HA6.out (fun _ h => False.elim h))
    have HB6 := Lib.hid (HB5.out.keep HA6.out (fun _ _ h => h))
    have HK6 : Hid (Below w.heap.size w w6) := Lib.hid (Keeps.below HK5.out HA6.out HK5.out.size (fun _ h => False.elim h))
    have hbd : l.length ≤ 1000000 := by have := HLY.out; omega
    have HF6' := HF6.out
    unfold Qf.cs at HF6'
    obtain ⟨x0, x1, x2, x3, x4, x5, x6, x7, x8, x9, x10, x11⟩ := q12_cells HF6'
    clear HF6'
    go_wp2_with (at_builtin; refine halt ?_)
    clear x0 x1 x2 x3 x4 x5 x6 x7 x8 x9 x10 x11
    have hka : Keeps (fun _ => False) w6 (w6.alloc (.cells f.cs 32 (0, 0))) := (Keeps.refl _ _).alloc _
    have HQA := Lib.hid (HQ6.out.keep hka (fun _ h => False.elim h))
    refine Halted.go (wpList_app _ rfl _ _ 23 23 rfl w.heap.size 32 inf _ 12 120 Try.underlying23 HI.out HZ.out HS1.out HS2.out rfl al l.length cl (qfs l) rfl (.inl HQA.out.1) (.slice (some ⟨w6.heap.size, 0, none⟩) 1 1) rfl 1 f.cs.toList (src_qf (Blk.new w6 f.cs 32)) (by simp only [maxLen]; omega) (by omega) (Nat.le_trans HK6.out.size hka.size) ?_)
    intro a7 c7 w7 _ hk7 hn7 hown7 _
    have HQ7 : Hid (Qs w.heap.size w7 a7 c7 (l ++ [f])) := Lib.hid (Qs.snoc HQA.out hk7 hn7 (hown7 (by omega)) (((HQN.out.mono HSZ.out.1).keep HA6.out (fun _ h => False.elim h)).keep hka (fun _ h => False.elim h))
     (fun b hb e => by have h1 := (HQN.out.hb b hb).1; have h2 := (own_geQ HQS.out.1 b e).2; omega)
     (fun b hb e => by have h1 := (HQN.out.hr b hb).1; have h2 := (own_geQ HQS.out.1 b e).2; omega))
    have HK7 : Hid (Below w.heap.size w w7) := Lib.hid (Keeps.below HK6.out (hka.to.trans hk7) HK6.out.size (fun b hb => hb.1))
    have HB7 := Lib.hid ((HB6.out.keep hka (fun _ _ h => h)).keep hk7 (fun b hb h => by have h1 := HLT.out b (HBL.out b hb); have h2 := h.1; omega))
    clear hk7 hn7 hown7 hka
    have ho := offA_eq a' cap' n
    have hnI : (n : Int) ≤ (m' : Int) := by omega
    have hnI0 : (0 : Int) ≤ (n : Int) := by omega
    have hmc : (m' : Int) ≤ (cap' : Int) := by omega
    have hnc : (n : Int) ≤ (cap' : Int) := by omega
    go_wp2_with fail
    clear ho
    go_roundg k
    case measure => omega
    case rel =>
     exact ⟨offA a' cap' n, m' - n, cap' - n, y2, a7, c7, l ++ [f], rfl, by simp, by have := HLEN2.out; have := HYK.out; omega, by have := HLY.out; have := HLEN2.out; simp; omega, by have h := HB7.out.from n hnm; rw [HEND.out] at h; exact h, fun b hb => HBL.out b (offA_blockR hb), HQ7.out, HN.out, HK7.out⟩
  ·have hm0 : m' = 0 := by omega
   have hy0 : y = [] := List.eq_nil_of_length_eq_zero (by omega)
   clear hym
   have HN : Hid (allQ xs = some (l.map (·.c))) := Lib.hid (by rw [HDE.out, hy0, decs_end]; simp [appO])
   clear hy0
   subst hm0
   go_wp2_with fail
   go_returns
   rw [HN.out]
   exact ⟨HKW.out, al, cl, l, rfl, rfl, HQS.out⟩

end Go.Proofs.Ytgfkgmmigbpciaa

/- clean of the law. -/
namespace Go.Proofs.Ytgfkgmmigbpciaa
set_option linter.unusedSimpArgs false
set_option linter.unusedVariables false
open Go.RowKit Go.Deep

end Go.Proofs.Ytgfkgmmigbpciaa

/- A frame that is cut off is none; a clean frame is written and read back: the plain law. -/
namespace Go.Proofs.Ytgfkgmmigbpciaa
set_option linter.unusedSimpArgs false
set_option linter.unusedVariables false
open Go.RowKit Go.Deep

/-- What is read at the front is read so, whatever stands behind. -/
def Ext {α : Type} (p : List UInt8 → Option (α × List UInt8)) : Prop := ∀ ys z x, p ys = some x → p (ys ++ z) = some (x.1, x.2 ++ z)
theorem Ext.none {α : Type} : Ext (α := α) (fun _ => none) := fun _ _ _ h => by cases h
theorem Ext.some {α : Type} (v : α) : Ext (fun ys => some (v, ys)) := fun _ _ _ h => by cases h; rfl
theorem Ext.pb {α β : Type} {p : List UInt8 → Option (α × List UInt8)} {f : α → List UInt8 → Option (β × List UInt8)} (h : Ext p) (hf : ∀ v, Ext (f v)) : Ext (fun ys => pb (p ys) f) := by
 intro ys z x hx
 dsimp only at hx ⊢
 cases hp : p ys with
 | none => rw [hp] at hx; cases hx
 | some u =>
  obtain ⟨v, y⟩ := u
  rw [hp] at hx
  rw [h ys z (v, y) hp]
  exact hf v y z x hx
theorem Ext.ite {α : Type} {c : Prop} [Decidable c] {p q : List UInt8 → Option (α × List UInt8)} (h1 : Ext p) (h2 : Ext q) : Ext (fun ys => if c then p ys else q ys) := by
 by_cases hc : c
 ·intro ys z x h; dsimp only at h ⊢; rw [if_pos hc] at h ⊢; exact h1 ys z x h
 ·intro ys z x h; dsimp only at h ⊢; rw [if_neg hc] at h ⊢; exact h2 ys z x h
theorem Ext.skip {α : Type} {c : Prop} [Decidable c] {p q : List UInt8 → Option (α × List UInt8)} (hc : ¬ c) (h2 : Ext q) : Ext (fun ys => if c then p ys else q ys) := by
 intro ys z x h; dsimp only at h ⊢; rw [if_neg hc] at h ⊢; exact h2 ys z x h
theorem Ext.ptk (n : Nat) : Ext (ptk n) := by
 intro ys z x h
 by_cases hn : n ≤ ys.length
 ·rw [ptk_yes hn] at h
  cases h
  rw [ptk_yes (by rw [List.length_append]; omega), List.take_append_of_le_length hn, List.drop_append_of_le_length hn]
 ·rw [ptk_no hn] at h; cases h
theorem rbV_app {xs z : List UInt8} {n : Int} (h : rbOK xs.length n = true) : rbV (xs ++ z) n = rbV xs n := by
 have h2 : rbOK (xs ++ z).length n = true := by simp only [rbOK, decide_eq_true_eq, List.length_append] at h ⊢; omega
 unfold rbV
 rw [h, h2, if_pos rfl, if_pos rfl, List.take_append_of_le_length (by simp only [rbOK, decide_eq_true_eq] at h; omega)]
theorem rv_app {ys z : List UInt8} (h : rvHave ys = true) : rvHave (ys ++ z) = true ∧ rvV (ys ++ z) = rvV ys ∧ rvL (ys ++ z) = rvL ys := by
 have hh := h
 simp only [rvHave, decide_eq_true_eq] at hh
 have hd : (ys ++ z).headD 0 = ys.headD 0 := by
  cases ys with
  | nil => simp at hh
  | cons c cs => rfl
 have h2 : rvHave (ys ++ z) = true := by
  simp only [rvHave, decide_eq_true_eq, hd, List.length_append]
  omega
 refine ⟨h2, ?_, ?_⟩
 ·unfold rvV
  rw [h, h2, if_pos rfl, if_pos rfl, hd]
  congr 1
  refine rbV_app ?_
  simp only [rbOK, decide_eq_true_eq]
  rcases rvN_cases (ys.headD 0) (ys.headD 0).toNat_lt with ⟨_, hn, _⟩ | ⟨_, _, hn, _⟩ | ⟨_, _, hn, _⟩ | ⟨_, hn, _⟩ <;> rw [hn] at hh ⊢ <;> omega
 ·unfold rvL
  rw [h, h2, if_pos rfl, if_pos rfl, hd]
theorem pn_have {ys : List UInt8} {x : Int × List UInt8} (h : pn ys = some x) : rvHave ys = true := by
 cases hh : rvHave ys with
 | true => rfl
 | false => unfold pn rvE at h; rw [hh] at h; simp at h
theorem Ext.pn : Ext pn := by
 intro ys z x h
 have hh := pn_have h
 obtain ⟨h1, h2, h3⟩ := rv_app (z := z) hh
 obtain ⟨v, y⟩ := x
 obtain ⟨_, _, _, k, hk, hkl, hy, _⟩ := pn_bd h
 unfold Go.Proofs.Ytgfkgmmigbpciaa.pn rvE at h ⊢
 rw [hh] at h
 rw [h1, h2, h3]
 cases h
 rw [if_pos rfl, if_pos rfl, List.drop_append_of_le_length (by rw [hk]; simpa using hkl)]
theorem Ext.ptx : Ext ptx := Ext.pb Ext.pn (fun n => Ext.ptk n.toNat)
theorem Ext.prs : ∀ (k : Nat) (f : Int), Ext (prs k f)
 | 0, _ => Ext.some _
 | k + 1, _ => Ext.pb Ext.pn (fun _ => Ext.ite Ext.none (Ext.pb Ext.pn (fun _ => Ext.ite Ext.none (Ext.pb (Ext.prs k _) (fun _ => Ext.some _)))))
/-- Which types of frames say where they end. -/
def tyC (t : Int) : Prop := t ≠ 0 ∧ t ≠ 8 ∧ t ≠ 9 ∧ t ≠ 12 ∧ t ≠ 13
theorem Ext.str (fin hasOff : Bool) : Ext (strD fin hasOff true) := by
 unfold strD
 refine Ext.pb Ext.pn fun _ => Ext.pb (Ext.ite Ext.pn (Ext.some _)) fun _ => Ext.pb Ext.ptx fun _ => Ext.ite (Ext.some _) Ext.none
theorem Ext.dec {t : Int} (h : tyC t) : Ext (decT t) := by
 obtain ⟨h0, h8, h9, h12, h13⟩ := h
 unfold decT
 unfold othD oneD ackD resD stoD cryD tokD maxD msdD strsD nidD retD chaD cloD
 repeat' first
  | exact Ext.none
  | exact Ext.some _
  | exact Ext.pn
  | exact Ext.ptk _
  | exact Ext.ptx
  | exact Ext.prs _ _
  | exact Ext.str _ _
  | (refine Ext.skip h0 ?_)
  | (refine Ext.skip h8 ?_)
  | (refine Ext.skip h9 ?_)
  | (refine Ext.skip h12 ?_)
  | (refine Ext.skip h13 ?_)
  | (refine Ext.ite ?_ ?_)
  | (refine Ext.pb ?_ ?_)
  | intro
end Go.Proofs.Ytgfkgmmigbpciaa

/- append on bytes that live on. -/
namespace Go.Proofs.Ytgfkgmmigbpciaa
set_option linter.unusedSimpArgs false
set_option linter.unusedVariables false
open Go.RowKit Go.Deep Go.WideShapes

end Go.Proofs.Ytgfkgmmigbpciaa
