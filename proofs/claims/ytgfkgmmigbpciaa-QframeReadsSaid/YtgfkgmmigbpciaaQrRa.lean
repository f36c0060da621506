/- What QframeReads needs: bounds of what is read, answers in one form, bytes that may be turned. -/
import Derived.Test.YtgfkgmmigbpciaaQrR
import Derived.Test.YtgfkgmmigbpciaaQrI
import Derived.Test.YtgfkgmmigbpciaaQrMl
namespace Go.Proofs.Ytgfkgmmigbpciaa
set_option linter.unusedSimpArgs false
set_option linter.unusedVariables false
open Go.RowKit Go.Deep

/-- No great number of ranges. -/
def RsO (r : Option (Qc × List UInt8)) : Prop := ∀ x, r = some x → x.1.rs.length ≤ 40
theorem RsO.none : RsO none := fun _ h => by cases h
theorem RsO.some {c : Qc} (y : List UInt8) (h : c.rs.length ≤ 40) : RsO (some (c, y)) := fun _ hx => by cases hx; exact h
theorem RsO.pb {α : Type} {r : Option (α × List UInt8)} {f : α → List UInt8 → Option (Qc × List UInt8)} (h : ∀ v y, r = Option.some (v, y) → RsO (f v y)) : RsO (pb r f) := by
 unfold Go.Proofs.Ytgfkgmmigbpciaa.pb
 cases r with
 | none => exact RsO.none
 | some x => exact h x.1 x.2 rfl
theorem RsO.ite {c : Prop} [Decidable c] {r s : Option (Qc × List UInt8)} (h1 : c → RsO r) (h2 : ¬ c → RsO s) : RsO (if c then r else s) := by
 split
 ·exact h1 (by assumption)
 ·exact h2 (by assumption)
theorem prs_len : ∀ (k : Nat) (f : Int) (ys : List UInt8) (l : List (Int × Int)) (y : List UInt8), prs k f ys = some (l, y) → l.length = k
 | 0, f, ys, l, y, h => by cases h; rfl
 | k + 1, f, ys, l, y, h => by
  unfold prs at h
  cases h1 : pn ys with
  | none => rw [pb_none _ h1] at h; cases h
  | some x1 =>
   obtain ⟨g, y1⟩ := x1
   rw [pb_some _ h1] at h
   split at h
   ·cases h
   ·cases h2 : pn y1 with
    | none => rw [pb_none _ h2] at h; cases h
    | some x2 =>
     obtain ⟨d, y2⟩ := x2
     rw [pb_some _ h2] at h
     split at h
     ·cases h
     ·cases h3 : prs k (f - g - 2 - d) y2 with
      | none => rw [pb_none _ h3] at h; cases h
      | some x3 =>
       obtain ⟨l3, y3⟩ := x3
       rw [pb_some _ h3] at h
       cases h
       rw [List.length_cons, prs_len k _ _ _ _ h3]
theorem RsO.ack (ys : List UInt8) : RsO (ackD ys) := by
 unfold ackD
 refine RsO.pb fun last y1 _ => RsO.pb fun delay y2 _ => RsO.pb fun n y3 hn => RsO.ite (fun _ => RsO.none) fun h32 => RsO.pb fun d y4 _ => RsO.ite (fun _ => RsO.none) fun _ => RsO.pb fun l y5 hl => RsO.some _ ?_
 have h1 := prs_len _ _ _ _ _ hl
 show (_ :: l).length ≤ 40
 rw [List.length_cons, h1]
 have := (pn_bd hn).1
 omega
theorem RsO.dec (t : Int) (ys : List UInt8) : RsO (decT t ys) := by
 have h0 : ([] : List (Int × Int)).length ≤ 40 := by decide
 unfold decT othD padD oneD resD stoD cryD tokD strD maxD msdD strsD nidD retD chaD cloD
 repeat' first
  | exact RsO.none
  | exact RsO.some _ h0
  | exact RsO.ack _
  | (refine RsO.ite (fun _ => ?_) (fun _ => ?_))
  | (refine RsO.pb fun _ _ _ => ?_)
theorem RsO.q (ys : List UInt8) : RsO (decQ ys) := by
 unfold decQ
 exact RsO.pb fun t y _ => RsO.ite (fun _ => RsO.dec t y) (fun _ => RsO.none)
theorem decs_bd : ∀ (n : Nat) (ys : List UInt8) (l : List Qc), decsQ n ys = some l → l.length ≤ n ∧ ∀ c ∈ l, c.rs.length ≤ 40
 | 0, ys, l, h => by cases h
 | n + 1, ys, l, h => by
  unfold decsQ at h
  split at h
  ·cases h; exact ⟨by simp, fun c hc => by cases hc⟩
  ·cases hq : decQ ys with
   | none => rw [hq] at h; cases h
   | some x =>
    obtain ⟨c, y⟩ := x
    rw [hq] at h
    dsimp only at h
    cases hr : decsQ n y with
    | none => rw [hr] at h; cases h
    | some m =>
     rw [hr] at h
     cases h
     obtain ⟨h1, h2⟩ := decs_bd n y m hr
     refine ⟨by rw [List.length_cons]; omega, fun d hd => ?_⟩
     rcases List.mem_cons.1 hd with rfl | hd
     ·exact RsO.q ys _ hq
     ·exact h2 d hd
theorem all_bd (ys : List UInt8) : ((allQ ys).getD []).length ≤ ys.length + 1 ∧ ∀ c ∈ (allQ ys).getD [], c.rs.length ≤ 40 := by
 cases h : allQ ys with
 | none => exact ⟨by simp, fun c hc => by cases hc⟩
 | some l =>
  unfold allQ at h
  split at h
  ·cases h
  ·exact decs_bd _ _ _ h

def allE (r : Option (List Qc)) : Int := match r with
 | some _ => 0
 | none => 30
theorem AllP.gen {r : Option (List Qc)} {w : World} {e : Ending} {w' : World} (h : AllP r w e w') : ∃ a cap l, e = .returned (.tuple #[.slice a (l : List Qf).length cap, .int .i64 (allE r)]) ∧ l.map (·.c) = r.getD [] ∧ Qs w.heap.size w' a cap l ∧ Below w.heap.size w w' := by
 obtain ⟨hk, hr⟩ := h
 cases r with
 | none => exact ⟨none, 0, [], hr, rfl, Qs.nil _ _, hk⟩
 | some cs =>
  obtain ⟨a, cap, l, h1, h2, h3⟩ := hr
  exact ⟨a, cap, l, h2, h1, h3, hk⟩
def rdE (r : Option (Qc × List UInt8)) : Int := match r with
 | some _ => 0
 | none => 30
def rdN (m : Nat) (r : Option (Qc × List UInt8)) : Int := match r with
 | some x => ((m - x.2.length : Nat) : Int)
 | none => 0
def rdC (r : Option (Qc × List UInt8)) : Qc := match r with
 | some x => x.1
 | none => ⟨0, 0, 0, false, 0, 0, 0, [], [], false, false, 0⟩
theorem rdC_rs (ys : List UInt8) : (rdC (decQ ys)).rs.length ≤ 40 := by
 cases h : decQ ys with
 | none => exact Nat.zero_le _
 | some x => exact RsO.q ys x h
theorem ReadP.gen {m : Nat} {r : Option (Qc × List UInt8)} {w : World} {e : Ending} {w' : World} (h : ReadP m r w e w') : ∃ f : Qf, e = .returned (.tuple #[.agg f.cs, .int .i64 (rdN m r), .int .i64 (rdE r)]) ∧ f.c = rdC r ∧ Qn w.heap.size w' f ∧ Below w.heap.size w w' := by
 obtain ⟨hk, hr⟩ := h
 cases r with
 | none => exact ⟨⟨⟨0, 0, 0, false, 0, 0, 0, [], [], false, false, 0⟩, none, 0, 0, none, 0, 0⟩, hr, rfl, Qn.plain _ _ _ _ _ _ _ _ _ _ _ _ inU_0 inU_0 inU_0 inU_0 inU_0 inU_0 inU_0 (by omega), hk⟩
 | some x =>
  obtain ⟨f, h1, h2, h3⟩ := hr
  exact ⟨f, h2, h1, h3, hk⟩

/-- Bytes that may be turned. -/
def Wb (base : Nat) (w : World) (a : Option Addr) (n cap : Nat) (xs : List UInt8) : Prop :=
 By w a n cap xs ∧ ∀ b, a.map (·.block) = some b → base ≤ b ∧ b < w.heap.size ∧ ∀ o, w.frozen? ⟨b, o, none⟩ = false
theorem Bo.wb {base : Nat} {w : World} {a : Option Addr} {n cap : Nat} {xs : List UInt8} (h : Bo base w a n cap xs) : Wb base w a n cap xs := by
 refine ⟨h.by, fun b hb => ⟨(h.ge b hb).1, (h.ge b hb).2, ?_⟩⟩
 rcases h.2.2 with ⟨h0, _⟩ | ⟨g, cap', cur, hv, hg, hbl, _⟩
 ·cases h0; cases hb
 ·cases hv
  cases hb
  exact fun o => h.2.frozenAt o
theorem Wb.nil (base : Nat) (w : World) : Wb base w none 0 0 [] := ⟨By.nil w, fun b hb => by cases hb⟩
theorem frozen_keep {w w' : World} {S : Nat → Prop} (k : Keeps S w w') {b : Nat} (hb : b < w.heap.size) (hs : ¬ S b) (o : Nat) : w'.frozen? ⟨b, o, none⟩ = w.frozen? ⟨b, o, none⟩ := by
 unfold World.frozen?
 rw [k.block b hb hs]
theorem Wb.keep {base : Nat} {w w' : World} {S : Nat → Prop} {a : Option Addr} {n cap : Nat} {xs : List UInt8} (h : Wb base w a n cap xs) (k : Keeps S w w') (hs : ∀ b, a.map (·.block) = some b → ¬ S b) : Wb base w' a n cap xs :=
 ⟨h.1.keep k hs, fun b hb => ⟨(h.2 b hb).1, Nat.lt_of_lt_of_le (h.2 b hb).2.1 k.size, fun o => by rw [frozen_keep k (h.2 b hb).2.1 (hs b hb)]; exact (h.2 b hb).2.2 o⟩⟩
theorem Wb.mono {base base' : Nat} {w : World} {a : Option Addr} {n cap : Nat} {xs : List UInt8} (h : Wb base w a n cap xs) (hb : base' ≤ base) : Wb base' w a n cap xs := ⟨h.1, fun b hx => ⟨Nat.le_trans hb (h.2 b hx).1, (h.2 b hx).2⟩⟩
/-- A byte is turned. -/
theorem By.turn {w : World} {b off n cap : Nat} {xs : List UInt8} (h : By w (some ⟨b, off, none⟩) n cap xs) (hc : ∀ i (hi : i < xs.length), w.cell? ⟨b, off + i, none⟩ = some (B xs[i])) (hlt : b < w.heap.size) (j : Nat) (hj : j < n) (d : UInt8) : By (w.setCell ⟨b, off + j, none⟩ (B d)) (some ⟨b, off, none⟩) n cap (xs.set j d) := by
 have h1 := h.1
 refine ⟨by rw [List.length_set]; exact h1, ⟨h.2.le, h.2.max, by simp [Bs]; omega, .inr ⟨b, off, rfl, by simpa using hlt, fun i v hv => ?_⟩⟩⟩
 have hi : i < xs.length := by
  have := (List.getElem?_eq_some_iff.1 hv).1
  simpa [Bs] using this
 have e : Bs (xs.set j d) = (Bs xs).set j (B d) := by simp [Bs, List.map_set]
 rw [e] at hv
 by_cases hij : i = j
 ·subst hij
  have hv2 : v = B d := by
   rw [List.getElem?_set_self (by simpa [Bs] using hi)] at hv
   exact (Option.some.inj hv).symm
  rw [hv2]
  exact World.cell?_setCell_same _ _ _ (hc i hi)
 ·rw [World.cell?_setCell_other _ _ _ _ (by intro e; injection e with _ e _; omega), hc i hi]
  rw [List.getElem?_set_ne (by omega)] at hv
  rw [← hv]
  simp [Bs, hi]
/-- A byte, turned. -/
theorem xor8Q (c : UInt8) (x : Int) (h0 : 0 ≤ x) (h1 : x ≤ 255) : ∃ d : UInt8, Value.int .u8 (bits .xor .u8 (c.toNat : Int) x) = B d := by
 have hc := c.toNat_lt
 rw [u8_xor (c.toNat : Int) x (by omega) (by omega) h0 (by omega)]
 have hx : (c.toNat : Int).toNat ^^^ x.toNat < 2 ^ 8 := Nat.xor_lt_two_pow (by omega) (by omega)
 generalize (c.toNat : Int).toNat ^^^ x.toNat = y at *
 refine ⟨byt (y : Int), ?_⟩
 rw [← B_byt, Int.emod_eq_of_lt (by omega) (by omega)]
theorem enc_lite {c : Qc} {ys : List UInt8} (hl : c.light = true) (h : encQ c = some ys) : ys.length ≤ 1000 := by
 unfold Qc.light at hl
 simp only [Bool.and_eq_true, decide_eq_true_eq] at hl
 unfold encQ at h
 split at h
 ·cases h
  rw [List.length_replicate]
  split <;> omega
 ·split at h
  ·rename_i l tl hp
   split at h
   ·cases h
    have h1 := plan_len hp
    have h2 := varsE_len l
    rw [List.length_append]
    omega
   ·cases h
  ·cases h
theorem enc_more {xs zs : List UInt8} {f : Qf} (h : encsO xs [f] = some zs) (hl : f.c.light = true) : zs.length ≤ xs.length + 1000 := by
 unfold encsO at h
 simp only [List.map_cons, List.map_nil, encsQ] at h
 cases he : encQ f.c with
 | none => rw [he] at h; cases h
 | some ys =>
  rw [he] at h
  simp at h
  have := enc_lite hl he
  rw [← h, List.length_append]
  omega
/-- What lies from base on is not frozen. -/
theorem Bd.free {base : Nat} {w : World} {a : Option Addr} {n cap : Nat} {xs : List UInt8} (h : Bd base w a n cap xs) : ∀ b, a.map (·.block) = some b → base ≤ b → b < w.heap.size ∧ ∀ o, w.frozen? ⟨b, o, none⟩ = false := by
 intro b hb hB
 rcases h.2 with h1 | ⟨_, _, h3⟩
 ·refine ⟨(own_geQ h1 b hb).2, ?_⟩
  rcases h1.2 with ⟨h0, _⟩ | ⟨g, cap', cur, hv, hg, hbl, _⟩
  ·cases h0; cases hb
  ·cases hv
   cases hb
   exact fun o => h1.frozenAt o
 ·exact ⟨(h3 b hb).1, (h3 b hb).2 hB⟩
/-- What Frames has written, on bytes of one's own told tight, may be turned. -/
theorem Sb.wb {base B : Nat} {w w' : World} {a a' : Option Addr} {n c n' c' : Nat} {xs ys : List UInt8} (ho : Wb base w a n c xs) (hB : B = w.heap.size) (hb : base ≤ B) (hk : Keeps (mine B a) w w') (hn : Near B w a a') (h : Sb B w' a' n' c' ys) : Wb base w' a' n' c' ys := by
 refine ⟨h.1.by, fun k hk' => ?_⟩
 rcases hn k hk' with h3 | h3
 ·rw [h3] at hk'
  have h4 := ho.2 k hk'
  exact ⟨h4.1, Nat.lt_of_lt_of_le h4.2.1 hk.size, fun o => by rw [frozen_keep hk h4.2.1 (fun e => by have := e.1; omega)]; exact h4.2.2 o⟩
 ·have h5 := h.1.free k hk' h3.2
  exact ⟨by omega, h5.1, h5.2⟩

end Go.Proofs.Ytgfkgmmigbpciaa
