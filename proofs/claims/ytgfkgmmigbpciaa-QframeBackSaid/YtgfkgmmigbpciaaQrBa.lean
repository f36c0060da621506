/- What QframeBack needs: frames one behind another are read back, paddings side by side told as one; a frame of a row of one's own is told anew. -/
import Derived.Test.YtgfkgmmigbpciaaQrR
import Derived.Test.YtgfkgmmigbpciaaQrI
import Derived.Test.YtgfkgmmigbpciaaQrMl
namespace Go.Proofs.Ytgfkgmmigbpciaa
set_option linter.unusedSimpArgs false
set_option linter.unusedVariables false
open Go.RowKit Go.Deep

def two0 (c d : Qc) : Bool := decide (c.t = 0) && decide (d.t = 0)
/-- No two paddings stand side by side. -/
def apart : List Qc → Bool
 | [] => true
 | [_] => true
 | c :: d :: l => !two0 c d && apart (d :: l)
theorem apart_snoc : ∀ (W : List Qc) (d c : Qc), apart (W ++ [d]) = true → two0 d c = false → apart (W ++ [d] ++ [c]) = true
 | [], d, c, _, h => by simp [apart, h]
 | [e], d, c, h1, h => by
  simp only [List.cons_append, List.nil_append, apart, Bool.and_eq_true] at h1 ⊢
  exact ⟨h1.1, by simp [h], trivial⟩
 | e :: f :: W, d, c, h1, h => by
  have ih := apart_snoc (f :: W) d c
  simp only [List.cons_append, apart, Bool.and_eq_true] at h1 ih ⊢
  exact ⟨h1.1, ih h1.2 h⟩
theorem apart_last : ∀ (W : List Qc) (d c : Qc), apart (W ++ [d]) = true → c.t = d.t → apart (W ++ [c]) = true
 | [], d, c, _, _ => rfl
 | [e], d, c, h1, h => by
  simp only [List.cons_append, List.nil_append, apart, Bool.and_eq_true] at h1 ⊢
  refine ⟨?_, trivial⟩
  have h2 := h1.1
  unfold two0 at h2 ⊢
  rw [h]
  exact h2
 | e :: f :: W, d, c, h1, h => by
  have ih := apart_last (f :: W) d c
  simp only [List.cons_append, apart, Bool.and_eq_true] at h1 ih ⊢
  exact ⟨h1.1, ih h1.2 h⟩

/-- A frame as clean tells it. -/
structure OkQ (k : Nat) (c : Qc) : Prop where
 w : c.wf
 s : c.Small
 n : norm c = c
 e : ∃ ys, encQ c = some ys
 p0 : c.t = 0 → 1 ≤ c.N
 p1 : c.t = 0 → c.N ≤ 100 * k
theorem OkQ.mono {k m : Nat} {c : Qc} (h : OkQ k c) (hk : k ≤ m) : OkQ m c := ⟨h.w, h.s, h.n, h.e, h.p0, fun h0 => by have := h.p1 h0; omega⟩

theorem zeros_app : ∀ (n : Nat) (zs : List UInt8), zeros zs = 0 → zeros (List.replicate n 0 ++ zs) = n
 | 0, zs, h => by simpa using h
 | n + 1, zs, h => by
  have ih := zeros_app n zs h
  rw [List.replicate_succ, List.cons_append]
  simp [zeros, ih]
theorem drop_rep (n : Nat) (zs : List UInt8) : (List.replicate n 0 ++ zs).drop n = zs := by
 have := List.drop_left (l₁ := List.replicate n (0 : UInt8)) (l₂ := zs)
 rwa [List.length_replicate] at this
theorem dec_padQ {c : Qc} {ys zs : List UInt8} (h0 : c.t = 0) (hn : norm c = c) (h : encQ c = some ys) (hz : zeros zs = 0) : decQ (ys ++ zs) = some (c, zs) := by
 unfold encQ at h
 rw [if_pos h0] at h
 cases h
 obtain ⟨n, he⟩ : ∃ n : Nat, (if c.N < 1 then 1 else c.N) = ((n + 1 : Nat) : Int) := by
  by_cases h1 : c.N < 1
  ·exact ⟨0, by rw [if_pos h1]; rfl⟩
  ·exact ⟨(c.N - 1).toNat, by rw [if_neg h1]; omega⟩
 rw [← hn, norm_0 h0]
 dsimp only
 rw [he]
 have e1 : (if ((n + 1 : Nat) : Int) < 1 then 1 else ((n + 1 : Nat) : Int)) = ((n + 1 : Nat) : Int) := if_neg (by omega)
 rw [e1, Int.toNat_natCast, List.replicate_succ, List.cons_append, decQ_pad]
 unfold padD
 rw [zeros_app n zs hz, drop_rep]
 congr
theorem enc_head {c : Qc} {ys : List UInt8} (h0 : c.t ≠ 0) (h : encQ c = some ys) (zs : List UInt8) : zeros (ys ++ zs) = 0 := by
 obtain ⟨t, y, hp, ht⟩ := enc_type h0 h
 cases ys with
 | nil =>
  have := (pn_bd hp).2.2.1
  simp at this
 | cons b r =>
  rw [List.cons_append]
  unfold zeros
  by_cases hb : b = 0
  ·exfalso
   subst hb
   have h1 : pn ((0 : UInt8) :: r) = some (0, r) := by
    have h2 := (pn_varE 0 (by omega) (by omega) r).1
    have h3 : varE 0 ++ r = (0 : UInt8) :: r := by
     have : varE 0 = [(0 : UInt8)] := by kernel_rfl
     rw [this]; rfl
    rwa [h3] at h2
   rw [h1] at hp
   cases hp
   exact ht.1 rfl
  ·rw [if_neg hb]

theorem back_all : ∀ (W : List Qc) (n k : Nat), W.length < n → apart W = true → (∀ c ∈ W, OkQ k c) → ∃ zs, encsQ W = some zs ∧ decsQ n zs = some W ∧ W.length ≤ zs.length ∧ (zeros zs ≠ 0 → ∃ c l, W = c :: l ∧ c.t = 0)
 | [], n, k, hn, _, _ => by
  obtain ⟨m, rfl⟩ : ∃ m, n = m + 1 := ⟨n - 1, by simp at hn; omega⟩
  exact ⟨[], rfl, decs_end m, Nat.le_refl _, fun h => absurd rfl h⟩
 | c :: l, n, k, hn, ha, ho => by
  rw [List.length_cons] at hn
  obtain ⟨m, rfl⟩ : ∃ m, n = m + 1 := ⟨n - 1, by omega⟩
  have ha2 : apart l = true := by
   cases l with
   | nil => rfl
   | cons d l => simp only [apart, Bool.and_eq_true] at ha; exact ha.2
  obtain ⟨zs, h1, h2, h3, h4⟩ := back_all l m k (by omega) ha2 (fun d hd => ho d (List.mem_cons_of_mem _ hd))
  have hc := ho c List.mem_cons_self
  obtain ⟨ys, he⟩ := hc.e
  have hd : decQ (ys ++ zs) = some (c, zs) := by
   by_cases h0 : c.t = 0
   ·refine dec_padQ h0 hc.n he (Classical.byContradiction fun hz => ?_)
    obtain ⟨d, l2, rfl, hd0⟩ := h4 hz
    simp only [apart, two0, h0, hd0, decide_true, Bool.and_true, Bool.not_true, Bool.false_and, Bool.false_eq_true] at ha
   ·have := dec_enc h0 hc.w hc.s he zs
    rwa [hc.n] at this
  have hlt := decQ_lt hd
  have hne : ys ++ zs ≠ [] := fun e => by rw [e] at hlt; simp at hlt
  refine ⟨ys ++ zs, by unfold encsQ; rw [he, h1], ?_, by rw [List.length_cons]; omega, fun hz => ?_⟩
  ·unfold decsQ
   rw [if_neg hne, hd]
   dsimp only
   rw [h2]
  ·by_cases h0 : c.t = 0
   ·exact ⟨c, l, rfl, h0⟩
   ·exact absurd (enc_head h0 he zs) hz
/-- Frames that stand apart are read back. -/
theorem back_law {W : List Qc} {k : Nat} (h0 : W ≠ []) (ha : apart W = true) (ho : ∀ c ∈ W, OkQ k c) : ∃ zs, encsQ W = some zs ∧ allQ zs = some W := by
 obtain ⟨zs, h1, h2, h3, _⟩ := back_all W (W.length + 1) k (by omega) ha ho
 have hz : zs ≠ [] := fun e => by
  rw [e] at h3
  cases W with
  | nil => exact h0 rfl
  | cons c l => simp at h3
 obtain ⟨zs', h1', h2', _⟩ := back_all W (zs.length + 1) k (by omega) ha ho
 rw [h1] at h1'
 cases h1'
 refine ⟨zs, h1, ?_⟩
 unfold allQ
 rw [if_neg hz, h2']
/-- What clean answers. -/
theorem clean_ok {c : Qc} (hl : c.light = true) (hw : c.wf) (hw2 : (cleanQ c).wf) : OkQ 1 (cleanQ c) := by
 obtain ⟨h1, h2, ys, h3, _⟩ := clean_back hw (light_small hl) hw2
 have hN : (cleanQ c).t = 0 → (cleanQ c).N ≤ 100 := by
  unfold cleanQ
  cases he : encQ c with
  | none => intro h; have h2 : ping.t = 0 := h; exact absurd h2 (by decide)
  | some us =>
   dsimp only
   intro h
   unfold Qc.light at hl
   simp only [Bool.and_eq_true, decide_eq_true_eq] at hl
   rw [(norm_enc he).2.2] at h
   rw [norm_0 h]
   dsimp only
   split <;> omega
 refine ⟨hw2, h1, h2, ⟨ys, h3⟩, fun h => ?_, fun h => by have := hN h; omega⟩
 rw [← h2, norm_0 h]
 dsimp only
 split <;> omega
/-- A padding told longer. -/
def addN (c : Qc) (m : Int) : Qc := ⟨c.t, c.id, c.off, c.fin, c.mx, c.code, c.delay, c.rs, c.xs, c.uni, c.app, m⟩
theorem OkQ.add {k : Nat} {c d : Qc} (h : OkQ k c) (hd : OkQ 1 d) (h0 : c.t = 0) (hd0 : d.t = 0) (hk : k ≤ 50) : OkQ (k + 1) (addN c (c.N + d.N)) := by
 have a0 := h.p0 h0
 have a1 := h.p1 h0
 have b0 := hd.p0 hd0
 have b1 := hd.p1 hd0
 have ht : (addN c (c.N + d.N)).t = 0 := h0
 refine ⟨⟨h.w.t, h.w.id, h.w.off, h.w.mx, h.w.code, h.w.delay, h.w.rs, by show _ ≤ c.N + d.N; omega, by show c.N + d.N ≤ _; omega⟩, ⟨h.s.b, h.s.r, by show c.N + d.N ≤ _; omega⟩, ?_, ?_, fun _ => by show 1 ≤ c.N + d.N; omega, fun _ => by show c.N + d.N ≤ _; omega⟩
 ·rw [norm_0 ht]
  have e := h.n
  rw [norm_0 h0] at e
  have e1 : (if (addN c (c.N + d.N)).N < 1 then 1 else (addN c (c.N + d.N)).N) = c.N + d.N := if_neg (by show ¬ c.N + d.N < 1; omega)
  rw [e1]
  unfold addN
  rw [← e]
 ·unfold encQ
  rw [if_pos ht]
  exact ⟨_, rfl⟩

/-- The length of a frame in a row of one's own is told anew. -/
theorem Qs.addN {base : Nat} {w : World} {b cap : Nat} {l : List Qf} {f : Qf} (h : Qs base w (some ⟨b, 0, none⟩) cap (l ++ [f])) (m : Int) (hm : -9223372036854775808 ≤ m ∧ m ≤ 9223372036854775807) :
  Qs base (w.setCell ⟨b, l.length * 12 + 11, none⟩ (.int .i64 m)) (some ⟨b, 0, none⟩) cap (l ++ [⟨addN f.c m, f.ra, f.rn, f.rc, f.a, f.n, f.cap⟩]) := by
 obtain ⟨h1, h2⟩ := h
 have hb := (own_geQ h1 b rfl)
 have hk : Keeps (fun k => k = b) w (w.setCell ⟨b, l.length * 12 + 11, none⟩ (.int .i64 m)) := (Keeps.refl (fun k => k = b) w).put _ _
 have hs := (h1.stored (l.length * 12 + 11) (.int .i64 m)).1
 have e : (qfs (l ++ [f])).set (l.length * 12 + 11) (.int .i64 m) = qfs (l ++ [⟨Go.Proofs.Ytgfkgmmigbpciaa.addN f.c m, f.ra, f.rn, f.rc, f.a, f.n, f.cap⟩]) := by
  rw [qfs_snoc, qfs_snoc, List.set_append_right _ _ (by rw [qfs_length]; omega), qfs_length]
  congr 1
  rw [show l.length * 12 + 11 - l.length * 12 = 11 by omega]
  rfl
 rw [e] at hs
 refine ⟨by rw [List.length_append] at hs ⊢; exact hs, fun g hg => ?_⟩
 have key : ∀ g ∈ l ++ [f], Qn base (w.setCell ⟨b, l.length * 12 + 11, none⟩ (.int .i64 m)) g := fun g hg => by
  obtain ⟨k1, k2, k3⟩ := h2 g hg
  exact ⟨k1.q.keep hk (fun x hx e => k2 x hx (by rw [e]; rfl)) (fun x hx e => k3 x hx (by rw [e]; rfl)), fun x hx => ⟨(k1.hb x hx).1, Nat.lt_of_lt_of_le (k1.hb x hx).2 hk.size⟩, fun x hx => ⟨(k1.hr x hx).1, Nat.lt_of_lt_of_le (k1.hr x hx).2 hk.size⟩⟩
 rcases List.mem_append.1 hg with h3 | h3
 ·exact ⟨key g (List.mem_append_left _ h3), (h2 g (List.mem_append_left _ h3)).2⟩
 ·simp only [List.mem_cons, List.not_mem_nil, or_false] at h3
  subst h3
  have hf : f ∈ l ++ [f] := List.mem_append_right _ (by simp)
  obtain ⟨⟨q1, q2, q3⟩, k1, k2⟩ := key f hf
  exact ⟨⟨⟨q1, q2, ⟨q3.t, q3.id, q3.off, q3.mx, q3.code, q3.delay, q3.rs, hm.1, hm.2⟩⟩, k1, k2⟩, (h2 f hf).2⟩

end Go.Proofs.Ytgfkgmmigbpciaa
