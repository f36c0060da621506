/- What is written of a frame is read back: the plain law. -/
import Derived.Test.YtgfkgmmigbpciaaQrA
import Derived.Test.YtgfkgmmigbpciaaQfJ
namespace Go.Proofs.Ytgfkgmmigbpciaa
set_option linter.unusedSimpArgs false
set_option linter.unusedVariables false
open Go.RowKit Go.Deep

theorem pn_varE (x : Int) (h0 : 0 ≤ x) (h1 : x ≤ 4611686018427387903) (more : List UInt8) : pn (varE x ++ more) = some (x, more) ∧ rvL (varE x ++ more) = varLenV x := by
 obtain ⟨a, b, c⟩ := rv_varE x h0 h1 more
 have hz : varLenV x ≠ 0 := by unfold varLenV; (repeat' split) <;> omega
 have hl := varE_length x hz
 refine ⟨?_, b⟩
 unfold pn
 rw [c, if_pos rfl, a, b, ← hl, Int.toNat_natCast, List.drop_left]
theorem vconsQ {x : Int} {l : List Int} (h : varsOK (x :: l) = true) : x ≤ 4611686018427387903 ∧ varsOK l = true := by
 unfold varsOK at h ⊢
 simp only [List.all_cons, Bool.and_eq_true, decide_eq_true_eq] at h
 exact h
theorem pn_vs {x : Int} {l : List Int} (h : varsOK (x :: l) = true) (h0 : 0 ≤ x) (more : List UInt8) : pn (varsE (x :: l) ++ more) = some (x, varsE l ++ more) := by
 have e : varsE (x :: l) ++ more = varE x ++ (varsE l ++ more) := by simp [varsE]
 rw [e]
 exact (pn_varE x h0 (vconsQ h).1 _).1
theorem varsE_nil (more : List UInt8) : varsE [] ++ more = more := rfl
theorem dec_type {t : Int} {l : List Int} (h : varsOK (t :: l) = true) (h0 : 0 ≤ t) (more : List UInt8) : decQ (varsE (t :: l) ++ more) = decT t (varsE l ++ more) := by
 have e : varsE (t :: l) ++ more = varE t ++ (varsE l ++ more) := by simp [varsE]
 unfold decQ
 rw [pb_some _ (pn_vs h h0 more), e, if_pos (pn_varE t h0 (vconsQ h).1 _).2]
theorem ptk_app {n : Nat} {tl rest : List UInt8} (h : tl.length = n) : ptk n (tl ++ rest) = some (tl, rest) := by
 rw [ptk_yes (by rw [List.length_append]; omega), ← h, List.take_left, List.drop_left]
theorem ptx_app {n : Nat} {tl rest : List UInt8} (h : tl.length = n) (hv : varsOK [(n : Int)] = true) : ptx (varsE [(n : Int)] ++ (tl ++ rest)) = some (tl, rest) := by
 unfold ptx
 rw [pb_some _ (pn_vs hv (by omega) _), varsE_nil, Int.toNat_natCast]
 exact ptk_app h
theorem enc_inv {c : Qc} {l : List Int} {tl ys : List UInt8} (h0 : c.t ≠ 0) (hp : planQ c = some (l, tl)) (h : encQ c = some ys) : varsOK l = true ∧ ys = varsE l ++ tl := by
 rw [encQ_plan h0, hp] at h
 dsimp only at h
 split at h
 ·rename_i hv
  cases h
  exact ⟨hv, rfl⟩
 ·cases h
theorem enc_none {c : Qc} {ys : List UInt8} (h0 : c.t ≠ 0) (hp : planQ c = none) (h : encQ c = some ys) : False := by rw [encQ_none h0 hp] at h; cases h

theorem prs_gaps : ∀ (rs : List (Int × Int)) (f : Int) (more : List UInt8), chainB (f - 2) rs = true → (∀ r ∈ rs, 0 ≤ r.1 ∧ 0 ≤ r.2) → varsOK (gapsL f rs) = true → prs rs.length f (varsE (gapsL f rs) ++ more) = some (rs, more)
 | [], f, more, _, _, _ => rfl
 | r :: rest, f, more, hc, hp, hv => by
  unfold chainB at hc
  simp only [Bool.and_eq_true, decide_eq_true_eq] at hc
  have h0 := hp r List.mem_cons_self
  have hv1 := hv
  unfold gapsL at hv1
  have hv2 := (vconsQ hv1).2
  have hv3 := (vconsQ hv2).2
  rw [List.length_cons]
  unfold prs gapsL
  rw [pb_some _ (pn_vs hv1 (by omega) more), if_neg (by omega), pb_some _ (pn_vs hv2 (by omega) more), if_neg (by omega)]
  rw [show f - (f - r.2 - 2) - 2 - (r.2 - r.1) = r.1 by omega, show f - (f - r.2 - 2) - 2 = r.2 by omega]
  rw [pb_some _ (prs_gaps rest r.1 more hc.2 (fun s hs => hp s (List.mem_cons_of_mem _ hs)) hv3)]

/-- A frame of which only what its type has is told. -/
def norm (c : Qc) : Qc :=
 if c.t = 0 then ⟨0, 0, 0, false, 0, 0, 0, [], [], false, false, if c.N < 1 then 1 else c.N⟩
 else if c.t = 2 then ⟨2, 0, 0, false, 0, 0, c.delay, c.rs, [], false, false, 0⟩
 else if c.t = 4 then ⟨4, c.id, 0, false, c.mx, c.code, 0, [], [], false, false, 0⟩
 else if c.t = 5 then ⟨5, c.id, 0, false, 0, c.code, 0, [], [], false, false, 0⟩
 else if c.t = 6 then ⟨6, 0, c.off, false, 0, 0, 0, [], c.xs, false, false, 0⟩
 else if c.t = 7 then ⟨7, 0, 0, false, 0, 0, 0, [], c.xs, false, false, 0⟩
 else if c.t = 8 then ⟨8, c.id, c.off, c.fin, 0, 0, 0, [], c.xs, false, false, 0⟩
 else if c.t = 16 then ⟨16, 0, 0, false, c.mx, 0, 0, [], [], false, false, 0⟩
 else if c.t = 20 then ⟨20, 0, 0, false, c.mx, 0, 0, [], [], false, false, 0⟩
 else if c.t = 17 then ⟨17, c.id, 0, false, c.mx, 0, 0, [], [], false, false, 0⟩
 else if c.t = 21 then ⟨21, c.id, 0, false, c.mx, 0, 0, [], [], false, false, 0⟩
 else if c.t = 18 then ⟨18, 0, 0, false, c.mx, 0, 0, [], [], c.uni, false, 0⟩
 else if c.t = 22 then ⟨22, 0, 0, false, c.mx, 0, 0, [], [], c.uni, false, 0⟩
 else if c.t = 24 then ⟨24, c.id, 0, false, c.mx, 0, 0, [], c.xs, false, false, 0⟩
 else if c.t = 25 then ⟨25, c.id, 0, false, 0, 0, 0, [], [], false, false, 0⟩
 else if c.t = 26 then ⟨26, 0, 0, false, 0, 0, 0, [], c.xs, false, false, 0⟩
 else if c.t = 27 then ⟨27, 0, 0, false, 0, 0, 0, [], c.xs, false, false, 0⟩
 else if c.t = 28 then ⟨28, 0, (if c.app then 0 else c.off), false, 0, c.code, 0, [], c.xs, false, c.app, 0⟩
 else ⟨c.t, 0, 0, false, 0, 0, 0, [], [], false, false, 0⟩

theorem dec_1 {c : Qc} {ys : List UInt8} (ht : c.t = 1) (hw : c.wf) (hs : c.Small) (h : encQ c = some ys) (rest : List UInt8) : decQ (ys ++ rest) = some (norm c, rest) := by
 have hn : c.t ≠ 0 := by omega
 obtain ⟨hv, rfl⟩ := enc_inv hn (plan_1 ht) h
 rw [List.append_nil, dec_type hv (by omega)]
 have e : norm c = ⟨1, 0, 0, false, 0, 0, 0, [], [], false, false, 0⟩ := by unfold norm; simp [ht]
 rw [e]
 show oneD 1 (varsE [] ++ rest) = _
 have v0 := (vconsQ hv).2
 rfl

theorem dec_30 {c : Qc} {ys : List UInt8} (ht : c.t = 30) (hw : c.wf) (hs : c.Small) (h : encQ c = some ys) (rest : List UInt8) : decQ (ys ++ rest) = some (norm c, rest) := by
 have hn : c.t ≠ 0 := by omega
 obtain ⟨hv, rfl⟩ := enc_inv hn (plan_30 ht) h
 rw [List.append_nil, dec_type hv (by omega)]
 have e : norm c = ⟨30, 0, 0, false, 0, 0, 0, [], [], false, false, 0⟩ := by unfold norm; simp [ht]
 rw [e]
 show oneD 30 (varsE [] ++ rest) = _
 have v0 := (vconsQ hv).2
 rfl

theorem dec_4 {c : Qc} {ys : List UInt8} (ht : c.t = 4) (hw : c.wf) (hs : c.Small) (h : encQ c = some ys) (rest : List UInt8) : decQ (ys ++ rest) = some (norm c, rest) := by
 have hn : c.t ≠ 0 := by omega
 obtain ⟨hv, rfl⟩ := enc_inv hn (plan_4 ht) h
 rw [List.append_nil, dec_type hv (by omega)]
 have e : norm c = ⟨4, c.id, 0, false, c.mx, c.code, 0, [], [], false, false, 0⟩ := by unfold norm; simp [ht]
 rw [e]
 show resD (varsE [c.id, c.code, c.mx] ++ rest) = _
 have v0 := (vconsQ hv).2
 unfold resD
 rw [pb_some _ (pn_vs v0 hw.id.1 rest)]
 have v1 := (vconsQ v0).2
 rw [pb_some _ (pn_vs v1 hw.code.1 rest)]
 have v2 := (vconsQ v1).2
 rw [pb_some _ (pn_vs v2 hw.mx.1 rest)]
 rfl

theorem dec_5 {c : Qc} {ys : List UInt8} (ht : c.t = 5) (hw : c.wf) (hs : c.Small) (h : encQ c = some ys) (rest : List UInt8) : decQ (ys ++ rest) = some (norm c, rest) := by
 have hn : c.t ≠ 0 := by omega
 obtain ⟨hv, rfl⟩ := enc_inv hn (plan_5 ht) h
 rw [List.append_nil, dec_type hv (by omega)]
 have e : norm c = ⟨5, c.id, 0, false, 0, c.code, 0, [], [], false, false, 0⟩ := by unfold norm; simp [ht]
 rw [e]
 show stoD (varsE [c.id, c.code] ++ rest) = _
 have v0 := (vconsQ hv).2
 unfold stoD
 rw [pb_some _ (pn_vs v0 hw.id.1 rest)]
 have v1 := (vconsQ v0).2
 rw [pb_some _ (pn_vs v1 hw.code.1 rest)]
 rfl

theorem dec_16 {c : Qc} {ys : List UInt8} (ht : c.t = 16) (hw : c.wf) (hs : c.Small) (h : encQ c = some ys) (rest : List UInt8) : decQ (ys ++ rest) = some (norm c, rest) := by
 have hn : c.t ≠ 0 := by omega
 obtain ⟨hv, rfl⟩ := enc_inv hn (plan_16 ht) h
 rw [List.append_nil, dec_type hv (by omega)]
 have e : norm c = ⟨16, 0, 0, false, c.mx, 0, 0, [], [], false, false, 0⟩ := by unfold norm; simp [ht]
 rw [e]
 show maxD 16 (varsE [c.mx] ++ rest) = _
 have v0 := (vconsQ hv).2
 unfold maxD
 rw [pb_some _ (pn_vs v0 hw.mx.1 rest)]
 rfl

theorem dec_20 {c : Qc} {ys : List UInt8} (ht : c.t = 20) (hw : c.wf) (hs : c.Small) (h : encQ c = some ys) (rest : List UInt8) : decQ (ys ++ rest) = some (norm c, rest) := by
 have hn : c.t ≠ 0 := by omega
 obtain ⟨hv, rfl⟩ := enc_inv hn (plan_20 ht) h
 rw [List.append_nil, dec_type hv (by omega)]
 have e : norm c = ⟨20, 0, 0, false, c.mx, 0, 0, [], [], false, false, 0⟩ := by unfold norm; simp [ht]
 rw [e]
 show maxD 20 (varsE [c.mx] ++ rest) = _
 have v0 := (vconsQ hv).2
 unfold maxD
 rw [pb_some _ (pn_vs v0 hw.mx.1 rest)]
 rfl

theorem dec_17 {c : Qc} {ys : List UInt8} (ht : c.t = 17) (hw : c.wf) (hs : c.Small) (h : encQ c = some ys) (rest : List UInt8) : decQ (ys ++ rest) = some (norm c, rest) := by
 have hn : c.t ≠ 0 := by omega
 obtain ⟨hv, rfl⟩ := enc_inv hn (plan_17 ht) h
 rw [List.append_nil, dec_type hv (by omega)]
 have e : norm c = ⟨17, c.id, 0, false, c.mx, 0, 0, [], [], false, false, 0⟩ := by unfold norm; simp [ht]
 rw [e]
 show msdD 17 (varsE [c.id, c.mx] ++ rest) = _
 have v0 := (vconsQ hv).2
 unfold msdD
 rw [pb_some _ (pn_vs v0 hw.id.1 rest)]
 have v1 := (vconsQ v0).2
 rw [pb_some _ (pn_vs v1 hw.mx.1 rest)]
 rfl

theorem dec_21 {c : Qc} {ys : List UInt8} (ht : c.t = 21) (hw : c.wf) (hs : c.Small) (h : encQ c = some ys) (rest : List UInt8) : decQ (ys ++ rest) = some (norm c, rest) := by
 have hn : c.t ≠ 0 := by omega
 obtain ⟨hv, rfl⟩ := enc_inv hn (plan_21 ht) h
 rw [List.append_nil, dec_type hv (by omega)]
 have e : norm c = ⟨21, c.id, 0, false, c.mx, 0, 0, [], [], false, false, 0⟩ := by unfold norm; simp [ht]
 rw [e]
 show msdD 21 (varsE [c.id, c.mx] ++ rest) = _
 have v0 := (vconsQ hv).2
 unfold msdD
 rw [pb_some _ (pn_vs v0 hw.id.1 rest)]
 have v1 := (vconsQ v0).2
 rw [pb_some _ (pn_vs v1 hw.mx.1 rest)]
 rfl

theorem dec_25 {c : Qc} {ys : List UInt8} (ht : c.t = 25) (hw : c.wf) (hs : c.Small) (h : encQ c = some ys) (rest : List UInt8) : decQ (ys ++ rest) = some (norm c, rest) := by
 have hn : c.t ≠ 0 := by omega
 obtain ⟨hv, rfl⟩ := enc_inv hn (plan_25 ht) h
 rw [List.append_nil, dec_type hv (by omega)]
 have e : norm c = ⟨25, c.id, 0, false, 0, 0, 0, [], [], false, false, 0⟩ := by unfold norm; simp [ht]
 rw [e]
 show retD (varsE [c.id] ++ rest) = _
 have v0 := (vconsQ hv).2
 unfold retD
 rw [pb_some _ (pn_vs v0 hw.id.1 rest)]
 rfl

theorem dec_18 {c : Qc} {ys : List UInt8} (ht : c.t = 18) (hw : c.wf) (hs : c.Small) (h : encQ c = some ys) (rest : List UInt8) : decQ (ys ++ rest) = some (norm c, rest) := by
 have hn : c.t ≠ 0 := by omega
 have hp := plan_18 ht
 by_cases hm : c.mx ≤ 1152921504606846976
 ·rw [if_pos hm] at hp
  obtain ⟨hv, rfl⟩ := enc_inv hn hp h
  have e : norm c = ⟨18, 0, 0, false, c.mx, 0, 0, [], [], c.uni, false, 0⟩ := by unfold norm; simp [ht]
  rw [List.append_nil, dec_type hv (by have := b2i_bd c.uni; omega), e]
  have v0 := (vconsQ hv).2
  cases c.uni with
  | false =>
   show strsD 18 false (varsE [c.mx] ++ rest) = _
   unfold strsD
   rw [pb_some _ (pn_vs v0 hw.mx.1 rest), if_pos hm]
   rfl
  | true =>
   show strsD 18 true (varsE [c.mx] ++ rest) = _
   unfold strsD
   rw [pb_some _ (pn_vs v0 hw.mx.1 rest), if_pos hm]
   rfl
 ·rw [if_neg hm] at hp
  exact (enc_none hn hp h).elim

theorem dec_22 {c : Qc} {ys : List UInt8} (ht : c.t = 22) (hw : c.wf) (hs : c.Small) (h : encQ c = some ys) (rest : List UInt8) : decQ (ys ++ rest) = some (norm c, rest) := by
 have hn : c.t ≠ 0 := by omega
 have hp := plan_22 ht
 by_cases hm : c.mx ≤ 1152921504606846976
 ·rw [if_pos hm] at hp
  obtain ⟨hv, rfl⟩ := enc_inv hn hp h
  have e : norm c = ⟨22, 0, 0, false, c.mx, 0, 0, [], [], c.uni, false, 0⟩ := by unfold norm; simp [ht]
  rw [List.append_nil, dec_type hv (by have := b2i_bd c.uni; omega), e]
  have v0 := (vconsQ hv).2
  cases c.uni with
  | false =>
   show strsD 22 false (varsE [c.mx] ++ rest) = _
   unfold strsD
   rw [pb_some _ (pn_vs v0 hw.mx.1 rest), if_pos hm]
   rfl
  | true =>
   show strsD 22 true (varsE [c.mx] ++ rest) = _
   unfold strsD
   rw [pb_some _ (pn_vs v0 hw.mx.1 rest), if_pos hm]
   rfl
 ·rw [if_neg hm] at hp
  exact (enc_none hn hp h).elim

theorem dec_26 {c : Qc} {ys : List UInt8} (ht : c.t = 26) (hw : c.wf) (hs : c.Small) (h : encQ c = some ys) (rest : List UInt8) : decQ (ys ++ rest) = some (norm c, rest) := by
 have hn : c.t ≠ 0 := by omega
 have hp := plan_26 ht
 by_cases hm : c.xs.length = 8
 ·rw [if_pos hm] at hp
  obtain ⟨hv, rfl⟩ := enc_inv hn hp h
  have e : norm c = ⟨26, 0, 0, false, 0, 0, 0, [], c.xs, false, false, 0⟩ := by unfold norm; simp [ht]
  rw [List.append_assoc, dec_type hv (by omega), e]
  show chaD 26 (varsE [] ++ (c.xs ++ rest)) = _
  unfold chaD
  rw [varsE_nil, pb_some _ (ptk_app hm)]
 ·rw [if_neg hm] at hp
  exact (enc_none hn hp h).elim

theorem dec_27 {c : Qc} {ys : List UInt8} (ht : c.t = 27) (hw : c.wf) (hs : c.Small) (h : encQ c = some ys) (rest : List UInt8) : decQ (ys ++ rest) = some (norm c, rest) := by
 have hn : c.t ≠ 0 := by omega
 have hp := plan_27 ht
 by_cases hm : c.xs.length = 8
 ·rw [if_pos hm] at hp
  obtain ⟨hv, rfl⟩ := enc_inv hn hp h
  have e : norm c = ⟨27, 0, 0, false, 0, 0, 0, [], c.xs, false, false, 0⟩ := by unfold norm; simp [ht]
  rw [List.append_assoc, dec_type hv (by omega), e]
  show chaD 27 (varsE [] ++ (c.xs ++ rest)) = _
  unfold chaD
  rw [varsE_nil, pb_some _ (ptk_app hm)]
 ·rw [if_neg hm] at hp
  exact (enc_none hn hp h).elim

theorem dec_6 {c : Qc} {ys : List UInt8} (ht : c.t = 6) (hw : c.wf) (hs : c.Small) (h : encQ c = some ys) (rest : List UInt8) : decQ (ys ++ rest) = some (norm c, rest) := by
 have hn : c.t ≠ 0 := by omega
 have hp := plan_6 ht
 cases hm : endB c.off c.xs.length with
 | true =>
  rw [hm, if_pos rfl] at hp
  obtain ⟨hv, rfl⟩ := enc_inv hn hp h
  have e : norm c = ⟨6, 0, c.off, false, 0, 0, 0, [], c.xs, false, false, 0⟩ := by unfold norm; simp [ht]
  rw [List.append_assoc, dec_type hv (by omega), e]
  have v0 := (vconsQ hv).2
  have v1 := (vconsQ v0).2
  show cryD (varsE [c.off, (c.xs.length : Int)] ++ (c.xs ++ rest)) = _
  unfold cryD
  rw [pb_some _ (pn_vs v0 hw.off.1 _), pb_some _ (ptx_app rfl v1), hm, if_pos rfl]
 | false =>
  rw [hm, if_neg (by decide)] at hp
  exact (enc_none hn hp h).elim

theorem dec_7 {c : Qc} {ys : List UInt8} (ht : c.t = 7) (hw : c.wf) (hs : c.Small) (h : encQ c = some ys) (rest : List UInt8) : decQ (ys ++ rest) = some (norm c, rest) := by
 have hn : c.t ≠ 0 := by omega
 have hp := plan_7 ht
 by_cases hm : 0 < c.xs.length
 ·rw [if_pos hm] at hp
  obtain ⟨hv, rfl⟩ := enc_inv hn hp h
  have e : norm c = ⟨7, 0, 0, false, 0, 0, 0, [], c.xs, false, false, 0⟩ := by unfold norm; simp [ht]
  rw [List.append_assoc, dec_type hv (by omega), e]
  have v0 := (vconsQ hv).2
  show tokD (varsE [(c.xs.length : Int)] ++ (c.xs ++ rest)) = _
  unfold tokD
  rw [pb_some _ (ptx_app rfl v0), if_pos hm]
 ·rw [if_neg hm] at hp
  exact (enc_none hn hp h).elim

theorem dec_24 {c : Qc} {ys : List UInt8} (ht : c.t = 24) (hw : c.wf) (hs : c.Small) (h : encQ c = some ys) (rest : List UInt8) : decQ (ys ++ rest) = some (norm c, rest) := by
 have hn : c.t ≠ 0 := by omega
 have hp := plan_24 ht
 by_cases hm : c.mx ≤ c.id ∧ 16 < c.xs.length ∧ c.xs.length ≤ 36
 ·rw [if_pos hm] at hp
  obtain ⟨hv, rfl⟩ := enc_inv hn hp h
  have e : norm c = ⟨24, c.id, 0, false, c.mx, 0, 0, [], c.xs, false, false, 0⟩ := by unfold norm; simp [ht]
  rw [List.append_assoc, dec_type hv (by omega), e]
  have v0 := (vconsQ hv).2
  have v1 := (vconsQ v0).2
  have hb : (byt ((c.xs.length : Int) - 16)).toNat = c.xs.length - 16 := by have := byt_val ((c.xs.length : Int) - 16); omega
  have hk1 : ptk 1 (byt ((c.xs.length : Int) - 16) :: (c.xs ++ rest)) = some ([byt ((c.xs.length : Int) - 16)], c.xs ++ rest) := ptk_app (n := 1) (tl := [byt ((c.xs.length : Int) - 16)]) rfl
  show nidD (varsE [c.id, c.mx] ++ (byt ((c.xs.length : Int) - 16) :: (c.xs ++ rest))) = _
  unfold nidD
  rw [pb_some _ (pn_vs v0 hw.id.1 _), pb_some _ (pn_vs v1 hw.mx.1 _), varsE_nil, pb_some _ hk1, List.headD_cons, hb,
   if_pos (by unfold nidOK; simp only [Bool.and_eq_true, decide_eq_true_eq]; omega), pb_some _ (ptk_app (n := c.xs.length - 16 + 16) (tl := c.xs) (by omega))]
 ·rw [if_neg hm] at hp
  exact (enc_none hn hp h).elim

theorem dec_28 {c : Qc} {ys : List UInt8} (ht : c.t = 28) (hw : c.wf) (hs : c.Small) (h : encQ c = some ys) (rest : List UInt8) : decQ (ys ++ rest) = some (norm c, rest) := by
 have hn : c.t ≠ 0 := by omega
 have hp := plan_28 ht
 have e : norm c = ⟨28, 0, (if c.app then 0 else c.off), false, 0, c.code, 0, [], c.xs, false, c.app, 0⟩ := by unfold norm; simp [ht]
 cases ha : c.app with
 | true =>
  rw [ha, if_pos rfl] at hp e
  obtain ⟨hv, rfl⟩ := enc_inv hn hp h
  rw [List.append_assoc, dec_type hv (by omega), e]
  have v0 := (vconsQ hv).2
  have v1 := (vconsQ v0).2
  show cloD true (varsE [c.code, (c.xs.length : Int)] ++ (c.xs ++ rest)) = _
  unfold cloD
  rw [pb_some _ (pn_vs v0 hw.code.1 _), if_pos rfl, pb_some _ rfl, pb_some _ (ptx_app rfl v1)]
 | false =>
  rw [ha, if_neg (by decide)] at hp e
  obtain ⟨hv, rfl⟩ := enc_inv hn hp h
  rw [List.append_assoc, dec_type hv (by omega), e]
  have v0 := (vconsQ hv).2
  have v1 := (vconsQ v0).2
  have v2 := (vconsQ v1).2
  show cloD false (varsE [c.code, c.off, (c.xs.length : Int)] ++ (c.xs ++ rest)) = _
  unfold cloD
  rw [pb_some _ (pn_vs v0 hw.code.1 _), if_neg (by decide), pb_some _ (pn_vs v1 hw.off.1 _), pb_some _ (ptx_app rfl v2)]

theorem dec_8 {c : Qc} {ys : List UInt8} (ht : c.t = 8) (hw : c.wf) (hs : c.Small) (h : encQ c = some ys) (rest : List UInt8) : decQ (ys ++ rest) = some (norm c, rest) := by
 have hn : c.t ≠ 0 := by omega
 have hp := plan_8 ht
 have e : norm c = ⟨8, c.id, c.off, c.fin, 0, 0, 0, [], c.xs, false, false, 0⟩ := by unfold norm; simp [ht]
 cases hm : endB c.off c.xs.length with
 | true =>
  rw [hm, if_pos rfl] at hp
  by_cases ho : c.off = 0
  ·rw [if_pos ho] at hp
   cases hf : c.fin with
   | true =>
    have hT : strT c = 11 := by unfold strT; rw [hf, if_pos ho]; rfl
    rw [hT] at hp
    obtain ⟨hv, rfl⟩ := enc_inv hn hp h
    rw [List.append_assoc, dec_type hv (by omega), e]
    have v0 := (vconsQ hv).2
    have v1 := (vconsQ v0).2
    show strD true false true (varsE [c.id, (c.xs.length : Int)] ++ (c.xs ++ rest)) = _
    unfold strD
    rw [pb_some _ (pn_vs v0 hw.id.1 _), if_neg (by decide), pb_some _ rfl, if_pos rfl, pb_some _ (ptx_app rfl v1), ← ho, hm, if_pos rfl, hf]
   | false =>
    have hT : strT c = 10 := by unfold strT; rw [hf, if_pos ho]; rfl
    rw [hT] at hp
    obtain ⟨hv, rfl⟩ := enc_inv hn hp h
    rw [List.append_assoc, dec_type hv (by omega), e]
    have v0 := (vconsQ hv).2
    have v1 := (vconsQ v0).2
    show strD false false true (varsE [c.id, (c.xs.length : Int)] ++ (c.xs ++ rest)) = _
    unfold strD
    rw [pb_some _ (pn_vs v0 hw.id.1 _), if_neg (by decide), pb_some _ rfl, if_pos rfl, pb_some _ (ptx_app rfl v1), ← ho, hm, if_pos rfl, hf]
  ·rw [if_neg ho] at hp
   cases hf : c.fin with
   | true =>
    have hT : strT c = 15 := by unfold strT; rw [hf, if_neg ho]; rfl
    rw [hT] at hp
    obtain ⟨hv, rfl⟩ := enc_inv hn hp h
    rw [List.append_assoc, dec_type hv (by omega), e]
    have v0 := (vconsQ hv).2
    have v1 := (vconsQ v0).2
    have v2 := (vconsQ v1).2
    show strD true true true (varsE [c.id, c.off, (c.xs.length : Int)] ++ (c.xs ++ rest)) = _
    unfold strD
    rw [pb_some _ (pn_vs v0 hw.id.1 _), if_pos rfl, pb_some _ (pn_vs v1 hw.off.1 _), if_pos rfl, pb_some _ (ptx_app rfl v2), hm, if_pos rfl, hf]
   | false =>
    have hT : strT c = 14 := by unfold strT; rw [hf, if_neg ho]; rfl
    rw [hT] at hp
    obtain ⟨hv, rfl⟩ := enc_inv hn hp h
    rw [List.append_assoc, dec_type hv (by omega), e]
    have v0 := (vconsQ hv).2
    have v1 := (vconsQ v0).2
    have v2 := (vconsQ v1).2
    show strD false true true (varsE [c.id, c.off, (c.xs.length : Int)] ++ (c.xs ++ rest)) = _
    unfold strD
    rw [pb_some _ (pn_vs v0 hw.id.1 _), if_pos rfl, pb_some _ (pn_vs v1 hw.off.1 _), if_pos rfl, pb_some _ (ptx_app rfl v2), hm, if_pos rfl, hf]
 | false =>
  rw [hm, if_neg (by decide)] at hp
  exact (enc_none hn hp h).elim

theorem dec_2 {c : Qc} {ys : List UInt8} (ht : c.t = 2) (hw : c.wf) (hs : c.Small) (h : encQ c = some ys) (rest : List UInt8) : decQ (ys ++ rest) = some (norm c, rest) := by
 have hn : c.t ≠ 0 := by omega
 have hp := plan_2 ht
 have e : norm c = ⟨2, 0, 0, false, 0, 0, c.delay, c.rs, [], false, false, 0⟩ := by unfold norm; simp [ht]
 cases ho : ackOK c.rs with
 | true =>
  rw [ho, if_pos rfl] at hp
  obtain ⟨hv, rfl⟩ := enc_inv hn hp h
  have hk := ho
  unfold ackOK at hk
  simp only [Bool.and_eq_true, decide_eq_true_eq] at hk
  cases hr : c.rs with
  | nil => rw [hr] at hk; simp at hk
  | cons r rs =>
   rw [hr] at hk hv
   have hrs := hw.rs
   rw [hr] at hrs e
   obtain ⟨⟨k1, k2⟩, k3⟩ := hk
   unfold chainB at k3
   simp only [Bool.and_eq_true, decide_eq_true_eq] at k3
   rw [List.length_cons] at k2
   unfold ackL at hv ⊢
   rw [List.append_nil, dec_type hv (by omega), e]
   have v0 := (vconsQ hv).2
   have v1 := (vconsQ v0).2
   have v2 := (vconsQ v1).2
   have v3 := (vconsQ v2).2
   have v4 := (vconsQ v3).2
   have h0 := hrs r List.mem_cons_self
   show ackD _ = _
   unfold ackD
   rw [pb_some _ (pn_vs v0 h0.2.1 rest), pb_some _ (pn_vs v1 hw.delay.1 rest), pb_some _ (pn_vs v2 (by omega) rest), if_neg (by omega), pb_some _ (pn_vs v3 (by omega) rest), if_neg (by have := h0.1.1; omega), Int.toNat_natCast, show r.2 - (r.2 - r.1) = r.1 by omega]
   rw [pb_some _ (prs_gaps rs r.1 rest k3.2 (fun s hs => ⟨(hrs s (List.mem_cons_of_mem _ hs)).1.1, (hrs s (List.mem_cons_of_mem _ hs)).2.1⟩) v4)]
 | false =>
  rw [ho, if_neg (by decide)] at hp
  exact (enc_none hn hp h).elim

theorem dec_enc {c : Qc} {ys : List UInt8} (h0 : c.t ≠ 0) (hw : c.wf) (hs : c.Small) (h : encQ c = some ys) (rest : List UInt8) : decQ (ys ++ rest) = some (norm c, rest) := by
 by_cases h1 : c.t = 1
 ·exact dec_1 h1 hw hs h rest
 by_cases h30 : c.t = 30
 ·exact dec_30 h30 hw hs h rest
 by_cases h2 : c.t = 2
 ·exact dec_2 h2 hw hs h rest
 by_cases h4 : c.t = 4
 ·exact dec_4 h4 hw hs h rest
 by_cases h5 : c.t = 5
 ·exact dec_5 h5 hw hs h rest
 by_cases h6 : c.t = 6
 ·exact dec_6 h6 hw hs h rest
 by_cases h7 : c.t = 7
 ·exact dec_7 h7 hw hs h rest
 by_cases h8 : c.t = 8
 ·exact dec_8 h8 hw hs h rest
 by_cases h16 : c.t = 16
 ·exact dec_16 h16 hw hs h rest
 by_cases h20 : c.t = 20
 ·exact dec_20 h20 hw hs h rest
 by_cases h17 : c.t = 17
 ·exact dec_17 h17 hw hs h rest
 by_cases h21 : c.t = 21
 ·exact dec_21 h21 hw hs h rest
 by_cases h18 : c.t = 18
 ·exact dec_18 h18 hw hs h rest
 by_cases h22 : c.t = 22
 ·exact dec_22 h22 hw hs h rest
 by_cases h24 : c.t = 24
 ·exact dec_24 h24 hw hs h rest
 by_cases h25 : c.t = 25
 ·exact dec_25 h25 hw hs h rest
 by_cases h26 : c.t = 26
 ·exact dec_26 h26 hw hs h rest
 by_cases h27 : c.t = 27
 ·exact dec_27 h27 hw hs h rest
 by_cases h28 : c.t = 28
 ·exact dec_28 h28 hw hs h rest
 exact (enc_none h0 (plan_no (by unfold typesQ; simp only [List.mem_cons, List.not_mem_nil, or_false, not_or]; exact ⟨h1, h30, h2, h4, h5, h6, h7, h8, h16, h20, h17, h21, h18, h22, h24, h25, h26, h27, h28⟩)) h).elim

end Go.Proofs.Ytgfkgmmigbpciaa
