/- The packets of the package qpkt, read: plain law, and the walk of packet where the packet is long. -/
import Derived.Test.YtaokhgpidifedaaPktA
namespace Go.Proofs.Ytaokhgpidifedaa
open Go.RowKit Go.Deep

def pktL (T V : Int) (dx sx : List UInt8) (N : Int) (P : Nat) (ys : List UInt8) : List UInt8 :=
  byt (192 + 16 * T + P - 1) :: (bigD V 4 ++ (byt dx.length :: (dx ++ (byt sx.length :: (sx ++ (varE ((P : Int) + ys.length) ++ (bigD N P ++ ys)))))))
def pktS (dx : List UInt8) (N : Int) (P : Nat) (ys : List UInt8) : List UInt8 := byt (64 + P - 1) :: (dx ++ (bigD N P ++ ys))

theorem first_long (T : Int) (P : Nat) (t0 : 0 ≤ T) (t1 : T ≤ 3) (p0 : 1 ≤ P) (p1 : P ≤ 4) : ∃ F : Int, ((byt (192 + 16 * T + P - 1)).toNat : Int) = F ∧ 0 ≤ F ∧ F ≤ 255 ∧ bits .and .u8 F 64 = 64 ∧ bits .and .u8 F 128 = 128 ∧ bits .and .u8 F 3 = (P : Int) - 1 ∧ bits .and .u8 F 12 = 0 ∧ bits .and .u8 (F / 16) 3 = T := by
  rcases (show T = 0 ∨ T = 1 ∨ T = 2 ∨ T = 3 by omega) with rfl | rfl | rfl | rfl <;> rcases (show P = 1 ∨ P = 2 ∨ P = 3 ∨ P = 4 by omega) with rfl | rfl | rfl | rfl <;> exact ⟨_, rfl, by decide +kernel, by decide +kernel, by decide +kernel, by decide +kernel, by decide +kernel, by decide +kernel, by decide +kernel⟩
theorem first_short (P : Nat) (p0 : 1 ≤ P) (p1 : P ≤ 4) : ∃ F : Int, ((byt (64 + P - 1)).toNat : Int) = F ∧ 0 ≤ F ∧ F ≤ 255 ∧ bits .and .u8 F 64 = 64 ∧ bits .and .u8 F 128 = 0 ∧ bits .and .u8 F 3 = (P : Int) - 1 ∧ bits .and .u8 F 60 = 0 := by
  rcases (show P = 1 ∨ P = 2 ∨ P = 3 ∨ P = 4 by omega) with rfl | rfl | rfl | rfl <;> exact ⟨_, rfl, by decide +kernel, by decide +kernel, by decide +kernel, by decide +kernel, by decide +kernel, by decide +kernel⟩

theorem numF_of (N : Int) (P : Nat) (hp : P ≤ 8) (h0 : 0 ≤ N) (h1 : N < 2 ^ (8 * P)) : numF 0 (bigD N P) = N := by
  have h := (rbV_bigD N P hp []).1
  rw [List.append_nil, (rbV_all (bigD N P) P (bigD_length N P) hp).1, Int.emod_eq_of_lt h0 h1] at h
  exact h

/-- What lies where in a long packet. -/
theorem pktL_drops (T V : Int) (dx sx : List UInt8) (N : Int) (P : Nat) (ys more xs : List UInt8) (h : pktL T V dx sx N P ys ++ more = xs) (hd : dx.length ≤ 20) (hs : sx.length ≤ 20) (hP : 1 ≤ P) (hP4 : P ≤ 4) (hy : ys.length ≤ 1200) :
    ∃ (k : Nat) (R1 R2 : List UInt8), k = (varE ((P : Int) + ys.length)).length ∧ rvL R2 = k ∧ rvE R2 = 0 ∧ rvV R2 = (P : Int) + ys.length ∧ 1 ≤ k ∧ k ≤ 8 ∧
      (xs.drop 0).take 1 = [byt (192 + 16 * T + P - 1)] ∧ (xs.drop 1).take 4 = bigD V 4 ∧ xs.drop 5 = byt dx.length :: (dx ++ R1) ∧ xs.drop (6 + dx.length) = byt sx.length :: (sx ++ R2) ∧ xs.drop (7 + dx.length + sx.length) = R2 ∧
      (xs.drop (7 + dx.length + sx.length + k)).take P = bigD N P ∧ (xs.drop (7 + dx.length + sx.length + k + P)).take ys.length = ys ∧
      (pktL T V dx sx N P ys).length = 7 + dx.length + sx.length + k + P + ys.length ∧ xs.length = 7 + dx.length + sx.length + k + P + ys.length + more.length := by
  have hv0 : (0 : Int) ≤ (P : Int) + ys.length := by omega
  have hv1 : (P : Int) + ys.length ≤ 4611686018427387903 := by omega
  obtain ⟨b1, b2, b3⟩ := rv_varE ((P : Int) + ys.length) hv0 hv1 (bigD N P ++ (ys ++ more))
  have hk := varE_length ((P : Int) + ys.length) (by rcases varLenV_cases ((P : Int) + ys.length) with h | h | h | h | h <;> omega)
  have hk8 : 1 ≤ (varE ((P : Int) + ys.length)).length ∧ (varE ((P : Int) + ys.length)).length ≤ 8 := by rcases varLenV_cases ((P : Int) + ys.length) with h | h | h | h | h <;> omega
  generalize hvx : varE ((P : Int) + ys.length) = vx at *
  obtain ⟨k, hkk⟩ : ∃ k, vx.length = k := ⟨_, rfl⟩
  have hbP := bigD_length N P
  have hb4 := bigD_length V 4
  have e : xs = byt (192 + 16 * T + P - 1) :: (bigD V 4 ++ (byt dx.length :: (dx ++ (byt sx.length :: (sx ++ (vx ++ (bigD N P ++ (ys ++ more)))))))) := by rw [← h]; simp [pktL, hvx]
  have e5 : xs.drop 5 = byt dx.length :: (dx ++ (byt sx.length :: (sx ++ (vx ++ (bigD N P ++ (ys ++ more)))))) := by rw [e, List.drop_succ_cons, List.drop_left' hb4]
  have e6 : xs.drop (6 + dx.length) = byt sx.length :: (sx ++ (vx ++ (bigD N P ++ (ys ++ more)))) := by
    rw [show 6 + dx.length = 5 + (dx.length + 1) by omega, ← List.drop_drop, e5, List.drop_succ_cons, List.drop_left' rfl]
  have e7 : xs.drop (7 + dx.length + sx.length) = vx ++ (bigD N P ++ (ys ++ more)) := by
    rw [show 7 + dx.length + sx.length = 6 + dx.length + (sx.length + 1) by omega, ← List.drop_drop, e6, List.drop_succ_cons, List.drop_left' rfl]
  have e8 : xs.drop (7 + dx.length + sx.length + k) = bigD N P ++ (ys ++ more) := by rw [← List.drop_drop, e7, List.drop_left' hkk]
  have e9 : xs.drop (7 + dx.length + sx.length + k + P) = ys ++ more := by rw [← List.drop_drop, e8, List.drop_left' hbP]
  refine ⟨k, byt sx.length :: (sx ++ (vx ++ (bigD N P ++ (ys ++ more)))), vx ++ (bigD N P ++ (ys ++ more)), hkk.symm, by rw [b2, ← hk, hkk], b3, b1, by omega, by omega, by rw [e]; simp, ?_, e5, e6, e7, ?_, ?_, ?_, ?_⟩
  · rw [e, List.drop_succ_cons, List.drop_zero, List.take_left' hb4]
  · rw [e8, List.take_left' hbP]
  · rw [e9, List.take_left' rfl]
  · simp [pktL, hvx, hkk, hbP, hb4]; omega
  · rw [e]; simp [hkk, hbP, hb4]; omega

/-- The reader, what it reads, what the world was. -/
structure St (w : World) (rb : Nat) (a : Option Addr) (m cap : Nat) (xs : List UInt8) (wi : World) (at_ : Nat) : Prop where
  by_ : By wi a m cap xs
  pr : Pr wi rb a m cap at_
  kp : Keeps (fun k => k = rb) w wi

theorem St.next {w wi wj : World} {rb : Nat} {a : Option Addr} {m cap : Nat} {xs : List UInt8} {i j : Nat} (h : St w rb a m cap xs wi i) (hne : ∀ b, a.map (·.block) = some b → b ≠ rb) (hp : Pr wj rb a m cap j) (hk : Keeps (fun k => k = rb) wi wj) : St w rb a m cap xs wj j :=
  ⟨h.by_.keep hk hne, hp, h.kp.trans hk⟩
theorem St.alloc {w wi : World} {rb : Nat} {a : Option Addr} {m cap : Nat} {xs : List UInt8} {i : Nat} (h : St w rb a m cap xs wi i) (o : Obj) : St w rb a m cap xs (wi.alloc o) i :=
  ⟨h.by_.alloc o, Blk.alloc h.pr o, h.kp.alloc o⟩
theorem St.drew {w wi : World} {rb : Nat} {a : Option Addr} {m cap : Nat} {xs : List UInt8} {i : Nat} (h : St w rb a m cap xs wi i) : St w rb a m cap xs wi.drew i :=
  ⟨h.by_.drew2, Blk.drew h.pr, h.kp.drew⟩
/-- A store into a block that was not there at the beginning. -/
theorem St.set {w wi : World} {rb : Nat} {a : Option Addr} {m cap : Nat} {xs : List UInt8} {i : Nat} (h : St w rb a m cap xs wi i) {b o : Nat} (hb : w.heap.size ≤ b) (hrb : rb < w.heap.size) (ha : ∀ b, a.map (·.block) = some b → b < w.heap.size) (v : Value) : St w rb a m cap xs (wi.setCell ⟨b, o, none⟩ v) i :=
  ⟨h.by_.keep ((Keeps.refl (fun k => k = b) wi).put o v) (fun c hc e => by have := ha c hc; omega), Blk.set_ne h.pr (a := ⟨b, o, none⟩) (by show rb ≠ b; omega) v, h.kp.setCell (fun hlt => by have : b < w.heap.size := hlt; omega) v⟩

theorem Bo.next {base rb : Nat} {w w' : World} {a : Option Addr} {n cap : Nat} {xs : List UInt8} (h : Bo base w a n cap xs) (hk : Keeps (fun k => k = rb) w w') (hrb : rb < base) : Bo base w' a n cap xs :=
  h.keep hk (fun b hb e => by have := (h.ge b hb).1; omega)
theorem Bo.put {base b o : Nat} {w : World} {a : Option Addr} {n cap : Nat} {xs : List UInt8} (h : Bo base w a n cap xs) (hb : b < base) (v : Value) : Bo base (w.setCell ⟨b, o, none⟩ v) a n cap xs :=
  h.keep ((Keeps.refl (fun k => k = b) w).put o v) (fun c hc e => by have := (h.ge c hc).1; omega)

theorem hd_cells {w : World} {b : Nat} {t : TypeId} {u0 u1 u2 u3 u4 u5 u6 : Value} (h : Blk w b #[u0, u1, u2, u3, u4, u5, u6] t) :
    (w.cell? ⟨b, 0, none⟩ = some u0 ∧ w.cell? ⟨b, 1, none⟩ = some u1 ∧ w.cell? ⟨b, 2, none⟩ = some u2 ∧ w.cell? ⟨b, 3, none⟩ = some u3 ∧ w.cell? ⟨b, 4, none⟩ = some u4 ∧ w.cell? ⟨b, 5, none⟩ = some u5 ∧ w.cell? ⟨b, 6, none⟩ = some u6) ∧ w.frozen? ⟨b, 0, none⟩ = false ∧ w.frozen? ⟨b, 1, none⟩ = false ∧ w.frozen? ⟨b, 2, none⟩ = false ∧ w.frozen? ⟨b, 3, none⟩ = false ∧ w.frozen? ⟨b, 4, none⟩ = false ∧ w.frozen? ⟨b, 5, none⟩ = false ∧ w.frozen? ⟨b, 6, none⟩ = false :=
  ⟨⟨h.cell 0, h.cell 1, h.cell 2, h.cell 3, h.cell 4, h.cell 5, h.cell 6⟩, h.free 0, h.free 1, h.free 2, h.free 3, h.free 4, h.free 5, h.free 6⟩
theorem hd_set {w : World} {b : Nat} {t : TypeId} {u0 u1 u2 u3 u4 u5 u6 : Value} (h : Blk w b #[u0, u1, u2, u3, u4, u5, u6] t) (v0 v1 v2 v3 v4 v5 v6 : Value) : Blk (((((((w.setCell ⟨b, 0, none⟩ v0).setCell ⟨b, 1, none⟩ v1).setCell ⟨b, 2, none⟩ v2).setCell ⟨b, 3, none⟩ v3).setCell ⟨b, 4, none⟩ v4).setCell ⟨b, 5, none⟩ v5).setCell ⟨b, 6, none⟩ v6) b #[v0, v1, v2, v3, v4, v5, v6] t :=
  (((((((h.set 0 v0).set 1 v1).set 2 v2).set 3 v3).set 4 v4).set 5 v5).set 6 v6).as (by simp)
theorem hd_ne {w : World} {b c : Nat} {cs : Array Value} {t : TypeId} (h : Blk w b cs t) (hn : b ≠ c) (v0 v1 v2 v3 v4 v5 v6 : Value) : Blk (((((((w.setCell ⟨c, 0, none⟩ v0).setCell ⟨c, 1, none⟩ v1).setCell ⟨c, 2, none⟩ v2).setCell ⟨c, 3, none⟩ v3).setCell ⟨c, 4, none⟩ v4).setCell ⟨c, 5, none⟩ v5).setCell ⟨c, 6, none⟩ v6) b cs t :=
  ((((((h.set_ne (a := ⟨c, 0, none⟩) hn v0).set_ne (a := ⟨c, 1, none⟩) hn v1).set_ne (a := ⟨c, 2, none⟩) hn v2).set_ne (a := ⟨c, 3, none⟩) hn v3).set_ne (a := ⟨c, 4, none⟩) hn v4).set_ne (a := ⟨c, 5, none⟩) hn v5).set_ne (a := ⟨c, 6, none⟩) hn v6
theorem hd_st {w wi : World} {rb : Nat} {a : Option Addr} {m cap : Nat} {xs : List UInt8} {i b : Nat} (h : St w rb a m cap xs wi i) (hb : w.heap.size ≤ b) (hrb : rb < w.heap.size) (ha : ∀ b, a.map (·.block) = some b → b < w.heap.size) (v0 v1 v2 v3 v4 v5 v6 : Value) : St w rb a m cap xs (((((((wi.setCell ⟨b, 0, none⟩ v0).setCell ⟨b, 1, none⟩ v1).setCell ⟨b, 2, none⟩ v2).setCell ⟨b, 3, none⟩ v3).setCell ⟨b, 4, none⟩ v4).setCell ⟨b, 5, none⟩ v5).setCell ⟨b, 6, none⟩ v6) i :=
  ((((((h.set hb hrb ha v0).set hb hrb ha v1).set hb hrb ha v2).set hb hrb ha v3).set hb hrb ha v4).set hb hrb ha v5).set hb hrb ha v6
theorem hd_bo {base b : Nat} {w : World} {a : Option Addr} {n cap : Nat} {xs : List UInt8} (h : Bo base w a n cap xs) (hb : b < base) (v0 v1 v2 v3 v4 v5 v6 : Value) : Bo base (((((((w.setCell ⟨b, 0, none⟩ v0).setCell ⟨b, 1, none⟩ v1).setCell ⟨b, 2, none⟩ v2).setCell ⟨b, 3, none⟩ v3).setCell ⟨b, 4, none⟩ v4).setCell ⟨b, 5, none⟩ v5).setCell ⟨b, 6, none⟩ v6) a n cap xs :=
  ((((((h.put hb v0).put hb v1).put hb v2).put hb v3).put hb v4).put hb v5).put hb v6

theorem packet_results (fr : Array Value) (w : World) (b : Nat) (t : TypeId) (u0 u1 u2 u3 u4 u5 u6 v3 : Value) (h2 : fr[2]?.getD undef = .pointer (some ⟨b, 0, none⟩)) (h3 : fr[3]?.getD undef = v3) (hb : Blk w b #[u0, u1, u2, u3, u4, u5, u6] t) :
    (results Try.f13 fr).run Try.prog w = .ok (.tuple #[.agg #[u0, u1, u2, u3, u4, u5, u6], v3]) w := by
  obtain ⟨⟨s0, s1, s2, s3, s4, s5, s6⟩, _⟩ := hd_cells hb
  simp [results, Try.results13, go_sem, h2, h3, s0, s1, s2, s3, s4, s5, s6]

end Go.Proofs.Ytaokhgpidifedaa
