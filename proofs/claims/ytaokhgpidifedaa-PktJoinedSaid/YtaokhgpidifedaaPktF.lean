/- Read of the package qpkt. -/
import Derived.Test.YtaokhgpidifedaaPktE
namespace Go.Proofs.Ytaokhgpidifedaa
open Go.RowKit Go.Deep

theorem calls_named {P : Program} {f : FuncId} {args : Array Value} {w : World} {R : Ending → World → Prop} (h : ∀ w' : World, w = w' → Calls P f args w' R) : Calls P f args w R := h w rfl

/-- The world in which Read calls packet. -/
def rdW (w : World) (s : Value) : World :=
  ((((w.alloc (.cells #[.bool false, .int .i64 0, .int .u32 0, .slice none 0 0, .slice none 0 0, .int .u64 0, .int .i64 0] 29 (0, 0))).alloc (.cells #[.slice none 0 0] 24 (0, 0))).alloc (.cells #[.int .i64 0] 3 (0, 0))).alloc (.cells #[.int .i64 0] 32 (0, 0))).alloc (.cells #[s, .int .i64 0] 48 (0, 0))
theorem blk_new (w : World) (cs : Array Value) (t : TypeId) (n : Nat) (h : w.heap.size = n) : Blk (w.alloc (.cells cs t (0, 0))) n cs t := h ▸ Blk.new w cs t
theorem res_rd (w : World) (s : Value) : Res (rdW w s) w.heap.size #[.bool false, .int .i64 0, .int .u32 0, .slice none 0 0, .slice none 0 0, .int .u64 0, .int .i64 0] (.slice none 0 0) (.int .i64 0) (.int .i64 0) := by
  unfold rdW
  refine ⟨((((Blk.new w _ _).alloc _).alloc _).alloc _).alloc _, (((blk_new _ _ _ _ (by simp)).alloc _).alloc _).alloc _, ((blk_new _ _ _ _ (by simp)).alloc _).alloc _, (blk_new _ _ _ _ (by simp)).alloc _⟩
theorem rd_new (w : World) {a : Option Addr} {m cap : Nat} (s : Value) (h : s = .slice a m cap := by rfl) : Pr (rdW w s) (w.heap.size + 4) a m cap 0 := by
  subst h
  exact blk_new _ _ _ _ (by simp)
theorem rd_by (w : World) (s : Value) {a : Option Addr} {m cap : Nat} {xs : List UInt8} (h : By w a m cap xs) : By (rdW w s) a m cap xs := ((((h.alloc _).alloc _).alloc _).alloc _).alloc _
theorem rd_below (w : World) (s : Value) : Below w.heap.size w (rdW w s) :=
  (((((Below.refl w.heap.size w).alloc (Nat.le_refl _) _).alloc (by simp) _).alloc (by simp; omega) _).alloc (by simp; omega) _).alloc (by simp; omega) _

theorem Res.setH {w : World} {n : Nat} {u0 u1 u2 u3 u4 u5 u6 x3 x4 x5 : Value} (h : Res w n #[u0, u1, u2, u3, u4, u5, u6] x3 x4 x5) (v0 v1 v2 v3 v4 v5 v6 : Value) : Res (((((((w.setCell ⟨n, 0, none⟩ v0).setCell ⟨n, 1, none⟩ v1).setCell ⟨n, 2, none⟩ v2).setCell ⟨n, 3, none⟩ v3).setCell ⟨n, 4, none⟩ v4).setCell ⟨n, 5, none⟩ v5).setCell ⟨n, 6, none⟩ v6) n #[v0, v1, v2, v3, v4, v5, v6] x3 x4 x5 :=
  ⟨hd_set h.r2 v0 v1 v2 v3 v4 v5 v6, hd_ne (c := n) h.r3 (by omega) v0 v1 v2 v3 v4 v5 v6, hd_ne (c := n) h.r4 (by omega) v0 v1 v2 v3 v4 v5 v6, hd_ne (c := n) h.r5 (by omega) v0 v1 v2 v3 v4 v5 v6⟩
theorem Res.setP {w : World} {n : Nat} {cs : Array Value} {x3 x4 x5 : Value} (h : Res w n cs x3 x4 x5) (v : Value) : Res (w.setCell ⟨n + 1, 0, none⟩ v) n cs v x4 x5 :=
  ⟨h.r2.set_ne (a := ⟨n + 1, 0, none⟩) (by show n ≠ n + 1; omega) v, h.r3.set 0 v, h.r4.set_ne (a := ⟨n + 1, 0, none⟩) (by show n + 2 ≠ n + 1; omega) v, h.r5.set_ne (a := ⟨n + 1, 0, none⟩) (by show n + 3 ≠ n + 1; omega) v⟩
theorem Res.setN {w : World} {n : Nat} {cs : Array Value} {x3 x4 x5 : Value} (h : Res w n cs x3 x4 x5) (v : Value) : Res (w.setCell ⟨n + 2, 0, none⟩ v) n cs x3 v x5 :=
  ⟨h.r2.set_ne (a := ⟨n + 2, 0, none⟩) (by show n ≠ n + 2; omega) v, h.r3.set_ne (a := ⟨n + 2, 0, none⟩) (by show n + 1 ≠ n + 2; omega) v, h.r4.set 0 v, h.r5.set_ne (a := ⟨n + 2, 0, none⟩) (by show n + 3 ≠ n + 2; omega) v⟩
theorem Res.setE {w : World} {n : Nat} {cs : Array Value} {x3 x4 x5 : Value} (h : Res w n cs x3 x4 x5) (v : Value) : Res (w.setCell ⟨n + 3, 0, none⟩ v) n cs x3 x4 v :=
  ⟨h.r2.set_ne (a := ⟨n + 3, 0, none⟩) (by show n ≠ n + 3; omega) v, h.r3.set_ne (a := ⟨n + 3, 0, none⟩) (by show n + 1 ≠ n + 3; omega) v, h.r4.set_ne (a := ⟨n + 3, 0, none⟩) (by show n + 2 ≠ n + 3; omega) v, h.r5.set 0 v⟩
theorem Res.set1 {w : World} {n : Nat} {u0 u1 u2 u3 u4 u5 u6 x3 x4 x5 : Value} (h : Res w n #[u0, u1, u2, u3, u4, u5, u6] x3 x4 x5) (v0 v1 v2 v3 v4 v5 v6 v7 : Value) : Res ((((((((w.setCell ⟨n, 0, none⟩ v0).setCell ⟨n, 1, none⟩ v1).setCell ⟨n, 2, none⟩ v2).setCell ⟨n, 3, none⟩ v3).setCell ⟨n, 4, none⟩ v4).setCell ⟨n, 5, none⟩ v5).setCell ⟨n, 6, none⟩ v6).setCell ⟨n + 1, 0, none⟩ v7) n #[v0, v1, v2, v3, v4, v5, v6] v7 x4 x5 :=
  (h.setH v0 v1 v2 v3 v4 v5 v6).setP v7
theorem Blk.sets1 {w : World} {b n : Nat} {cs : Array Value} {t : TypeId} (h : Blk w b cs t) (h0 : b ≠ n) (h1 : b ≠ n + 1) (v0 v1 v2 v3 v4 v5 v6 v7 : Value) : Blk ((((((((w.setCell ⟨n, 0, none⟩ v0).setCell ⟨n, 1, none⟩ v1).setCell ⟨n, 2, none⟩ v2).setCell ⟨n, 3, none⟩ v3).setCell ⟨n, 4, none⟩ v4).setCell ⟨n, 5, none⟩ v5).setCell ⟨n, 6, none⟩ v6).setCell ⟨n + 1, 0, none⟩ v7) b cs t :=
  (hd_ne (c := n) h h0 v0 v1 v2 v3 v4 v5 v6).set_ne (a := ⟨n + 1, 0, none⟩) h1 v7
theorem below_setH {B n : Nat} {w w' : World} (h : Below B w w') (hB : B ≤ n) (v0 v1 v2 v3 v4 v5 v6 : Value) : Below B w (((((((w'.setCell ⟨n, 0, none⟩ v0).setCell ⟨n, 1, none⟩ v1).setCell ⟨n, 2, none⟩ v2).setCell ⟨n, 3, none⟩ v3).setCell ⟨n, 4, none⟩ v4).setCell ⟨n, 5, none⟩ v5).setCell ⟨n, 6, none⟩ v6) :=
  ((((((h.setCell (p := ⟨n, 0, none⟩) hB v0).setCell (p := ⟨n, 1, none⟩) hB v1).setCell (p := ⟨n, 2, none⟩) hB v2).setCell (p := ⟨n, 3, none⟩) hB v3).setCell (p := ⟨n, 4, none⟩) hB v4).setCell (p := ⟨n, 5, none⟩) hB v5).setCell (p := ⟨n, 6, none⟩) hB v6
theorem below_sets1 {B n : Nat} {w w' : World} (h : Below B w w') (hB : B ≤ n) (v0 v1 v2 v3 v4 v5 v6 v7 : Value) : Below B w ((((((((w'.setCell ⟨n, 0, none⟩ v0).setCell ⟨n, 1, none⟩ v1).setCell ⟨n, 2, none⟩ v2).setCell ⟨n, 3, none⟩ v3).setCell ⟨n, 4, none⟩ v4).setCell ⟨n, 5, none⟩ v5).setCell ⟨n, 6, none⟩ v6).setCell ⟨n + 1, 0, none⟩ v7) :=
  (below_setH h hB v0 v1 v2 v3 v4 v5 v6).setCell (p := ⟨n + 1, 0, none⟩) (show B ≤ n + 1 by omega) v7
theorem hd_bo1 {base n : Nat} {w : World} {a : Option Addr} {k cap : Nat} {xs : List UInt8} (h : Bo base w a k cap xs) (h0 : n < base) (h1 : n + 1 < base) (v0 v1 v2 v3 v4 v5 v6 v7 : Value) : Bo base ((((((((w.setCell ⟨n, 0, none⟩ v0).setCell ⟨n, 1, none⟩ v1).setCell ⟨n, 2, none⟩ v2).setCell ⟨n, 3, none⟩ v3).setCell ⟨n, 4, none⟩ v4).setCell ⟨n, 5, none⟩ v5).setCell ⟨n, 6, none⟩ v6).setCell ⟨n + 1, 0, none⟩ v7) a k cap xs :=
  (hd_bo (b := n) h h0 v0 v1 v2 v3 v4 v5 v6).put (b := n + 1) h1 v7
theorem rd_S {w : World} {n : Nat} {u0 u1 u2 u3 u4 u5 u6 x3 x4 x5 : Value} {a : Option Addr} {m cap at_ : Nat} (h : Res w n #[u0, u1, u2, u3, u4, u5, u6] x3 x4 x5) (hp : Pr w (n + 4) a m cap at_) :
    w.cell? ⟨n, 0, none⟩ = some u0 ∧ w.cell? ⟨n, 1, none⟩ = some u1 ∧ w.cell? ⟨n, 2, none⟩ = some u2 ∧ w.cell? ⟨n, 3, none⟩ = some u3 ∧ w.cell? ⟨n, 4, none⟩ = some u4 ∧ w.cell? ⟨n, 5, none⟩ = some u5 ∧ w.cell? ⟨n, 6, none⟩ = some u6 ∧ w.cell? ⟨n + 1, 0, none⟩ = some x3 ∧ w.cell? ⟨n + 4, 1, none⟩ = some (.int .i64 (at_ : Int)) :=
  ⟨h.r2.cell 0, h.r2.cell 1, h.r2.cell 2, h.r2.cell 3, h.r2.cell 4, h.r2.cell 5, h.r2.cell 6, h.r3.cell 0, hp.cells.1.2⟩
theorem read_results (fr : Array Value) (w : World) (n : Nat) (u0 u1 u2 u3 u4 u5 u6 x3 x4 x5 : Value) (h2 : fr[2]?.getD undef = .pointer (some ⟨n, 0, none⟩)) (h3 : fr[3]?.getD undef = .pointer (some ⟨n + 1, 0, none⟩)) (h4 : fr[4]?.getD undef = .pointer (some ⟨n + 2, 0, none⟩)) (h5 : fr[5]?.getD undef = .pointer (some ⟨n + 3, 0, none⟩)) (h : Res w n #[u0, u1, u2, u3, u4, u5, u6] x3 x4 x5) :
    (results Try.f7 fr).run Try.prog w = .ok (.tuple #[.agg #[u0, u1, u2, u3, u4, u5, u6], x3, x4, x5]) w := by
  obtain ⟨⟨s0, s1, s2, s3, s4, s5, s6⟩, _⟩ := hd_cells h.r2
  have p3 : w.cell? ⟨n + 1, 0, none⟩ = some x3 := h.r3.cell 0
  have p4 : w.cell? ⟨n + 2, 0, none⟩ = some x4 := h.r4.cell 0
  have p5 : w.cell? ⟨n + 3, 0, none⟩ = some x5 := h.r5.cell 0
  simp [results, Try.results7, go_sem, h2, h3, h4, h5, s0, s1, s2, s3, s4, s5, s6, p3, p4, p5]

set_option maxHeartbeats 1600000 in
theorem read_none (a : Option Addr) (m cap : Nat) (xs : List UInt8) (w : World) (hb : By w a m cap (0 :: xs)) (hl : m ≤ 1000000000) (ha : ∀ b, a.map (·.block) = some b → b < w.heap.size) :
    Calls Try.prog 7 #[.slice a m cap] w fun e w' => e = .returned (.tuple #[.agg #[.bool false, .int .i64 0, .int .u32 0, .slice none 0 0, .slice none 0 0, .int .u64 0, .int .i64 0], .slice none 0 0, .int .i64 0, .int .i64 40]) ∧ Below w.heap.size w w' := by
  have HP5 : Hid (Pr (rdW w (.slice a m cap)) (w.heap.size + 4) a m cap 0) := Lib.hid (rd_new w _)
  have HB5 := Lib.hid (rd_by w (.slice a m cap) hb)
  have hs5 : (rdW w (.slice a m cap)).heap.size = w.heap.size + 5 := by simp [rdW]
  have HNE : Hid (∀ b, a.map (·.block) = some b → b ≠ w.heap.size + 4) := Lib.hid (fun b hb => by have := ha b hb; omega)
  have HS5 := Lib.hid hs5
  have HR6 := Lib.hid (res_rd w (.slice a m cap))
  have HK5 := Lib.hid (rd_below w (.slice a m cap))
  clear hb ha hs5
  have hmf : ∀ (fn : Fn) (first cap : Array Value) (w : World), (Instr.makeFunc fn first cap).run Try.prog w = .ok (.func fn first cap) w := fun _ _ _ _ => rfl
  go_enter_defers Try.func7, Try.ntmps7
  go_wp2_with fail
  refine calls_named ?_
  intro w5 hw5
  have hw5' : rdW w (.slice a m cap) = w5 := hw5
  rw [hw5'] at HP5 HB5 HS5 HR6 HK5
  clear hw5 hw5' hmf
  refine (packet_none (w.heap.size + 4) a m cap xs w5 HB5.out HP5.out hl HNE.out).mono ?_
  rintro e w6 ⟨rfl, hk6⟩
  have HR7 := Lib.hid (HR6.out.keep hk6 (show ¬ w.heap.size = w.heap.size + 4 by omega) (show ¬ w.heap.size + 1 = w.heap.size + 4 by omega) (show ¬ w.heap.size + 2 = w.heap.size + 4 by omega) (show ¬ w.heap.size + 3 = w.heap.size + 4 by omega))
  have HK6 := Lib.hid (Keeps.below HK5.out hk6 (by rw [HS5.out]; omega) (fun k hk => by omega))
  clear hk6
  go_wp2_with fail
  refine leaves_cons (f := 12) (args := #[.pointer (some ⟨w.heap.size, 0, none⟩), .pointer (some ⟨w.heap.size + 1, 0, none⟩), .pointer (some ⟨w.heap.size + 2, 0, none⟩), .pointer (some ⟨w.heap.size + 3, 0, none⟩)]) (by simp) (by simp [go_sem]) ?_
  refine (catch_panicking w.heap.size [] _ _ _ _ _ _ _ _ _ _ w6 HR7.out).mono ?_
  rintro e u' w'' ⟨rfl, rfl, hr, hk⟩
  dsimp only [settle]
  refine ⟨_, read_results _ w'' w.heap.size _ _ _ _ _ _ _ _ _ _ rfl rfl rfl rfl hr, rfl, HK6.out.trans hk⟩

set_option maxHeartbeats 3200000 in
theorem read_long (a : Option Addr) (m cap : Nat) (T V : Int) (dx sx : List UInt8) (N : Int) (P : Nat) (ys more : List UInt8) (w : World)
    (hb : By w a m cap (pktL T V dx sx N P ys ++ more)) (hl : m ≤ 1000000000) (ha : ∀ b, a.map (·.block) = some b → b < w.heap.size)
    (t0 : 0 ≤ T) (t1 : T ≤ 3) (v0 : 0 ≤ V) (v1 : V < 4294967296) (hd : dx.length ≤ 20) (hs : sx.length ≤ 20) (p0 : 1 ≤ P) (p1 : P ≤ 4) (n0 : 0 ≤ N) (n1 : N < 2 ^ (8 * P)) (hy : ys.length ≤ 1200) :
    Calls Try.prog 7 #[.slice a m cap] w fun e w' => ∃ a1 c1 a2 c2 a3 c3, e = .returned (.tuple #[.agg #[.bool true, .int .i64 T, .int .u32 V, .slice a1 dx.length c1, .slice a2 sx.length c2, .int .u64 N, .int .i64 P], .slice a3 ys.length c3, .int .i64 ((pktL T V dx sx N P ys).length : Nat), .int .i64 0]) ∧
      Bo w.heap.size w' a1 dx.length c1 dx ∧ Bo w.heap.size w' a2 sx.length c2 sx ∧ Bo w.heap.size w' a3 ys.length c3 ys ∧ Below w.heap.size w w' := by
  have HP5 : Hid (Pr (rdW w (.slice a m cap)) (w.heap.size + 4) a m cap 0) := Lib.hid (rd_new w _)
  have HB5 := Lib.hid (rd_by w (.slice a m cap) hb)
  have hs5 : (rdW w (.slice a m cap)).heap.size = w.heap.size + 5 := by simp [rdW]
  have HA5 : Hid (∀ b, a.map (·.block) = some b → b < (rdW w (.slice a m cap)).heap.size) := Lib.hid (fun b hb => by have := ha b hb; omega)
  have HNE : Hid (∀ b, a.map (·.block) = some b → b ≠ w.heap.size + 4) := Lib.hid (fun b hb => by have := ha b hb; omega)
  have HS5 := Lib.hid hs5
  have HR6 := Lib.hid (res_rd w (.slice a m cap))
  have HK5 := Lib.hid (rd_below w (.slice a m cap))
  clear hb ha hs5
  have hmf : ∀ (fn : Fn) (first cap : Array Value) (w : World), (Instr.makeFunc fn first cap).run Try.prog w = .ok (.func fn first cap) w := fun _ _ _ _ => rfl
  go_enter_defers Try.func7, Try.ntmps7
  go_wp2_with fail
  refine calls_named ?_
  intro w5 hw5
  have hw5' : rdW w (.slice a m cap) = w5 := hw5
  rw [hw5'] at HP5 HB5 HS5 HA5 HR6 HK5
  clear hw5 hw5' hmf
  refine (packet_long (w.heap.size + 4) a m cap T V dx sx N P ys more w5 HB5.out HP5.out hl HA5.out HNE.out t0 t1 v0 v1 hd hs p0 p1 n0 n1 hy).mono ?_
  rintro e w6 ⟨a1, c1, a2, c2, a3, c3, rfl, ho0, ho1, ho2, hp6, hk6⟩
  rw [HS5.out] at ho0 ho1 ho2
  obtain ⟨AT, hAT⟩ : ∃ AT : Nat, (pktL T V dx sx N P ys).length = AT := ⟨_, rfl⟩
  rw [hAT] at hp6
  have HAT := Lib.hid hAT
  have HP6 := Lib.hid hp6
  have HR7 := Lib.hid (HR6.out.keep hk6 (show ¬ w.heap.size = w.heap.size + 4 by omega) (show ¬ w.heap.size + 1 = w.heap.size + 4 by omega) (show ¬ w.heap.size + 2 = w.heap.size + 4 by omega) (show ¬ w.heap.size + 3 = w.heap.size + 4 by omega))
  have HK6 := Lib.hid (Keeps.below HK5.out hk6 (by rw [HS5.out]; omega) (fun k hk => by omega))
  have HO0 := Lib.hid ho0
  have HO1 := Lib.hid ho1
  have HO2 := Lib.hid ho2
  clear hp6 hk6 hAT ho0 ho1 ho2
  obtain ⟨⟨z0, z1, z2, z3, z4, z5, z6⟩, y0, y1, y2, y3, y4, y5, y6⟩ := hd_cells HR7.out.r2
  have p3 : w6.cell? ⟨w.heap.size + 1, 0, none⟩ = some (.slice none 0 0) := HR7.out.r3.cell 0
  have q3 : w6.frozen? ⟨w.heap.size + 1, 0, none⟩ = false := HR7.out.r3.free 0
  go_upto_region 4 with fail
  have HR8 := Lib.hid (HR7.out.set1 (.bool true) (.int .i64 T) (.int .u32 V) (.slice a1 dx.length c1) (.slice a2 sx.length c2) (.int .u64 N) (.int .i64 P) (.slice a3 ys.length c3))
  have HP8 := Lib.hid (Blk.sets1 HP6.out (n := w.heap.size) (by omega) (by omega) (.bool true) (.int .i64 T) (.int .u32 V) (.slice a1 dx.length c1) (.slice a2 sx.length c2) (.int .u64 N) (.int .i64 P) (.slice a3 ys.length c3))
  have HK8 := Lib.hid (below_sets1 HK6.out (Nat.le_refl _) (.bool true) (.int .i64 T) (.int .u32 V) (.slice a1 dx.length c1) (.slice a2 sx.length c2) (.int .u64 N) (.int .i64 P) (.slice a3 ys.length c3))
  have HQ0 := Lib.hid (hd_bo1 HO0.out (n := w.heap.size) (by omega) (by omega) (.bool true) (.int .i64 T) (.int .u32 V) (.slice a1 dx.length c1) (.slice a2 sx.length c2) (.int .u64 N) (.int .i64 P) (.slice a3 ys.length c3))
  have HQ1 := Lib.hid (hd_bo1 HO1.out (n := w.heap.size) (by omega) (by omega) (.bool true) (.int .i64 T) (.int .u32 V) (.slice a1 dx.length c1) (.slice a2 sx.length c2) (.int .u64 N) (.int .i64 P) (.slice a3 ys.length c3))
  have HQ2 := Lib.hid (hd_bo1 HO2.out (n := w.heap.size) (by omega) (by omega) (.bool true) (.int .i64 T) (.int .u32 V) (.slice a1 dx.length c1) (.slice a2 sx.length c2) (.int .u64 N) (.int .i64 P) (.slice a3 ys.length c3))
  clear z0 z1 z2 z3 z4 z5 z6 y0 y1 y2 y3 y4 y5 y6 p3 q3
  generalize (((((((w6.setCell ⟨w.heap.size, 0, none⟩ (.bool true)).setCell ⟨w.heap.size, 1, none⟩ (.int .i64 T)).setCell ⟨w.heap.size, 2, none⟩ (.int .u32 V)).setCell ⟨w.heap.size, 3, none⟩ (.slice a1 dx.length c1)).setCell ⟨w.heap.size, 4, none⟩ (.slice a2 sx.length c2)).setCell ⟨w.heap.size, 5, none⟩ (.int .u64 N)).setCell ⟨w.heap.size, 6, none⟩ (.int .i64 P)).setCell ⟨w.heap.size + 1, 0, none⟩ (.slice a3 ys.length c3) = w8 at *
  refine wp_region_noPanic ?_
  refine wp_region_held (S := fun w' => w'.cell? ⟨w.heap.size, 0, none⟩ = some (.bool true) ∧ w'.cell? ⟨w.heap.size, 1, none⟩ = some (.int .i64 T) ∧ w'.cell? ⟨w.heap.size, 2, none⟩ = some (.int .u32 V) ∧ w'.cell? ⟨w.heap.size, 3, none⟩ = some (.slice a1 dx.length c1) ∧ w'.cell? ⟨w.heap.size, 4, none⟩ = some (.slice a2 sx.length c2) ∧ w'.cell? ⟨w.heap.size, 5, none⟩ = some (.int .u64 N) ∧ w'.cell? ⟨w.heap.size, 6, none⟩ = some (.int .i64 P) ∧ w'.cell? ⟨w.heap.size + 1, 0, none⟩ = some (.slice a3 ys.length c3) ∧ w'.cell? ⟨w.heap.size + 4, 1, none⟩ = some (.int .i64 (AT : Int))) (by kernel_rfl) ?_
  change wpAnyH _ _ _ _ _ _ _ _ (World.drew _)
  have HR9 := Lib.hid HR8.out.drew
  have HP9 : Hid (Pr w8.drew (w.heap.size + 4) a m cap AT) := Lib.hid (Blk.drew HP8.out)
  have HK9 := Lib.hid HK8.out.drew
  have HU0 := Lib.hid (HQ0.out.keep ((Keeps.refl (fun _ => False) w8).drew) (fun _ _ h => h))
  have HU1 := Lib.hid (HQ1.out.keep ((Keeps.refl (fun _ => False) w8).drew) (fun _ _ h => h))
  have HU2 := Lib.hid (HQ2.out.keep ((Keeps.refl (fun _ => False) w8).drew) (fun _ _ h => h))
  generalize w8.drew = w9 at *
  have hS := rd_S HR9.out HP9.out
  refine wpAnyH_take (i := 0) (v := ?_) rfl (by kernel_rfl) (by kernel_rfl) (by kernel_rfl) (fun _ _ _ h => h) (Or.inl ⟨by kernel_rfl, ?_⟩) hS ?_
  rotate_left
  · intro wz ⟨_, _, _, _, _, _, _, _, _⟩; go_simp; try with_reducible rfl
  refine wpAnyH_take (i := 1) (v := ?_) rfl (by kernel_rfl) (by kernel_rfl) (by kernel_rfl) (fun _ _ _ h => h) (Or.inl ⟨by kernel_rfl, ?_⟩) hS ?_
  rotate_left
  · intro wz ⟨_, _, _, _, _, _, _, _, _⟩; go_simp; try with_reducible rfl
  refine wpAnyH_take (i := 2) (v := ?_) rfl (by kernel_rfl) (by kernel_rfl) (by kernel_rfl) (fun _ _ _ h => h) (Or.inl ⟨by kernel_rfl, ?_⟩) hS ?_
  rotate_left
  · intro wz ⟨_, _, _, _, _, _, _, _, _⟩; go_simp; try with_reducible rfl
  refine wpAnyH_take (i := 3) (v := ?_) rfl (by kernel_rfl) (by kernel_rfl) (by kernel_rfl) (fun _ _ _ h => h) (Or.inl ⟨by kernel_rfl, ?_⟩) hS ?_
  rotate_left
  · intro wz ⟨_, _, _, _, _, _, _, _, _⟩; go_simp; try with_reducible rfl
  refine wpAnyH_take (i := 4) (v := ?_) rfl (by kernel_rfl) (by kernel_rfl) (by kernel_rfl) (fun _ _ _ h => h) (Or.inl ⟨by kernel_rfl, ?_⟩) hS ?_
  rotate_left
  · intro wz ⟨_, _, _, _, _, _, _, _, _⟩; go_simp; try with_reducible rfl
  refine wpAnyH_take (i := 5) (v := ?_) rfl (by kernel_rfl) (by kernel_rfl) (by kernel_rfl) (fun _ _ _ h => h) (Or.inl ⟨by kernel_rfl, ?_⟩) hS ?_
  rotate_left
  · intro wz ⟨_, _, _, _, _, _, _, _, _⟩; go_simp; try with_reducible rfl
  obtain ⟨⟨z0, z1, z2, z3, z4, z5, z6⟩, y0, y1, y2, y3, y4, y5, y6⟩ := hd_cells HR9.out.r2
  have HRa := Lib.hid (HR9.out.setH (.bool true) (.int .i64 T) (.int .u32 V) (.slice a1 dx.length c1) (.slice a2 sx.length c2) (.int .u64 N) (.int .i64 P))
  have HPa : Hid (Pr _ (w.heap.size + 4) a m cap AT) := Lib.hid (hd_ne (c := w.heap.size) HP9.out (by omega) (.bool true) (.int .i64 T) (.int .u32 V) (.slice a1 dx.length c1) (.slice a2 sx.length c2) (.int .u64 N) (.int .i64 P))
  have HKa := Lib.hid (below_setH HK9.out (Nat.le_refl w.heap.size) (.bool true) (.int .i64 T) (.int .u32 V) (.slice a1 dx.length c1) (.slice a2 sx.length c2) (.int .u64 N) (.int .i64 P))
  have HV0 := Lib.hid (hd_bo (b := w.heap.size) HU0.out (by omega) (.bool true) (.int .i64 T) (.int .u32 V) (.slice a1 dx.length c1) (.slice a2 sx.length c2) (.int .u64 N) (.int .i64 P))
  have HV1 := Lib.hid (hd_bo (b := w.heap.size) HU1.out (by omega) (.bool true) (.int .i64 T) (.int .u32 V) (.slice a1 dx.length c1) (.slice a2 sx.length c2) (.int .u64 N) (.int .i64 P))
  have HV2 := Lib.hid (hd_bo (b := w.heap.size) HU2.out (by omega) (.bool true) (.int .i64 T) (.int .u32 V) (.slice a1 dx.length c1) (.slice a2 sx.length c2) (.int .u64 N) (.int .i64 P))
  refine held_skip (i := 6) (((((((w9.setCell ⟨w.heap.size, 0, none⟩ (.bool true)).setCell ⟨w.heap.size, 1, none⟩ (.int .i64 T)).setCell ⟨w.heap.size, 2, none⟩ (.int .u32 V)).setCell ⟨w.heap.size, 3, none⟩ (.slice a1 dx.length c1)).setCell ⟨w.heap.size, 4, none⟩ (.slice a2 sx.length c2)).setCell ⟨w.heap.size, 5, none⟩ (.int .u64 N)).setCell ⟨w.heap.size, 6, none⟩ (.int .i64 P)) rfl (by kernel_rfl) (by kernel_rfl) ?_ (rd_S HRa.out HPa.out) ?_
  · go_simp; try with_reducible rfl
  clear z0 z1 z2 z3 z4 z5 z6 y0 y1 y2 y3 y4 y5 y6 hS
  generalize (((((((w9.setCell ⟨w.heap.size, 0, none⟩ (.bool true)).setCell ⟨w.heap.size, 1, none⟩ (.int .i64 T)).setCell ⟨w.heap.size, 2, none⟩ (.int .u32 V)).setCell ⟨w.heap.size, 3, none⟩ (.slice a1 dx.length c1)).setCell ⟨w.heap.size, 4, none⟩ (.slice a2 sx.length c2)).setCell ⟨w.heap.size, 5, none⟩ (.int .u64 N)).setCell ⟨w.heap.size, 6, none⟩ (.int .i64 P)) = wa at *
  have p3 : wa.cell? ⟨w.heap.size + 1, 0, none⟩ = some (.slice a3 ys.length c3) := HRa.out.r3.cell 0
  have q3 : wa.frozen? ⟨w.heap.size + 1, 0, none⟩ = false := HRa.out.r3.free 0
  have HRb := Lib.hid (HRa.out.setP (.slice a3 ys.length c3))
  have HPb : Hid (Pr _ (w.heap.size + 4) a m cap AT) := Lib.hid (Blk.set_ne HPa.out (a := ⟨w.heap.size + 1, 0, none⟩) (by show w.heap.size + 4 ≠ w.heap.size + 1; omega) (.slice a3 ys.length c3))
  have HKb := Lib.hid (HKa.out.setCell (p := ⟨w.heap.size + 1, 0, none⟩) (by show w.heap.size ≤ w.heap.size + 1; omega) (.slice a3 ys.length c3))
  have HW0 := Lib.hid (HV0.out.put (b := w.heap.size + 1) (o := 0) (by omega) (.slice a3 ys.length c3))
  have HW1 := Lib.hid (HV1.out.put (b := w.heap.size + 1) (o := 0) (by omega) (.slice a3 ys.length c3))
  have HW2 := Lib.hid (HV2.out.put (b := w.heap.size + 1) (o := 0) (by omega) (.slice a3 ys.length c3))
  refine held_skip (i := 7) (wa.setCell ⟨w.heap.size + 1, 0, none⟩ (.slice a3 ys.length c3)) rfl (by kernel_rfl) (by kernel_rfl) ?_ (rd_S HRb.out HPb.out) ?_
  · go_simp; try with_reducible rfl
  clear p3 q3
  generalize wa.setCell ⟨w.heap.size + 1, 0, none⟩ (.slice a3 ys.length c3) = wb at *
  have p3 : wb.cell? ⟨w.heap.size + 2, 0, none⟩ = some (.int .i64 0) := HRb.out.r4.cell 0
  have q3 : wb.frozen? ⟨w.heap.size + 2, 0, none⟩ = false := HRb.out.r4.free 0
  have HRc := Lib.hid (HRb.out.setN (.int .i64 (AT : Int)))
  have HPc : Hid (Pr _ (w.heap.size + 4) a m cap AT) := Lib.hid (Blk.set_ne HPb.out (a := ⟨w.heap.size + 2, 0, none⟩) (by show w.heap.size + 4 ≠ w.heap.size + 2; omega) (.int .i64 (AT : Int)))
  have HKc := Lib.hid (HKb.out.setCell (p := ⟨w.heap.size + 2, 0, none⟩) (by show w.heap.size ≤ w.heap.size + 2; omega) (.int .i64 (AT : Int)))
  have HX0 := Lib.hid (HW0.out.put (b := w.heap.size + 2) (o := 0) (by omega) (.int .i64 (AT : Int)))
  have HX1 := Lib.hid (HW1.out.put (b := w.heap.size + 2) (o := 0) (by omega) (.int .i64 (AT : Int)))
  have HX2 := Lib.hid (HW2.out.put (b := w.heap.size + 2) (o := 0) (by omega) (.int .i64 (AT : Int)))
  refine held_skip (i := 8) (wb.setCell ⟨w.heap.size + 2, 0, none⟩ (.int .i64 (AT : Int))) rfl (by kernel_rfl) (by kernel_rfl) ?_ (rd_S HRc.out HPc.out) ?_
  · go_simp; try with_reducible rfl
  clear p3 q3
  generalize wb.setCell ⟨w.heap.size + 2, 0, none⟩ (.int .i64 (AT : Int)) = wc at *
  have p3 : wc.cell? ⟨w.heap.size + 3, 0, none⟩ = some (.int .i64 0) := HRc.out.r5.cell 0
  have q3 : wc.frozen? ⟨w.heap.size + 3, 0, none⟩ = false := HRc.out.r5.free 0
  have HRd := Lib.hid (HRc.out.setE (.int .i64 0))
  have HPd : Hid (Pr _ (w.heap.size + 4) a m cap AT) := Lib.hid (Blk.set_ne HPc.out (a := ⟨w.heap.size + 3, 0, none⟩) (by show w.heap.size + 4 ≠ w.heap.size + 3; omega) (.int .i64 0))
  have HKd := Lib.hid (HKc.out.setCell (p := ⟨w.heap.size + 3, 0, none⟩) (by show w.heap.size ≤ w.heap.size + 3; omega) (.int .i64 0))
  have HY0 := Lib.hid (HX0.out.put (b := w.heap.size + 3) (o := 0) (by omega) (.int .i64 0))
  have HY1 := Lib.hid (HX1.out.put (b := w.heap.size + 3) (o := 0) (by omega) (.int .i64 0))
  have HY2 := Lib.hid (HX2.out.put (b := w.heap.size + 3) (o := 0) (by omega) (.int .i64 0))
  refine held_skip (i := 9) (wc.setCell ⟨w.heap.size + 3, 0, none⟩ (.int .i64 0)) rfl (by kernel_rfl) (by kernel_rfl) ?_ (rd_S HRd.out HPd.out) ?_
  · go_simp; try with_reducible rfl
  clear p3 q3
  generalize wc.setCell ⟨w.heap.size + 3, 0, none⟩ (.int .i64 0) = wd at *
  refine wpAnyH_done (by kernel_rfl) ?_ _
  refine NoPanic.normal ?_
  refine then_named ?_
  intro fr hfr
  have h2 : fr.tmps[2]?.getD undef = .pointer (some ⟨w.heap.size, 0, none⟩) := by rw [hfr]; kernel_rfl
  have h3 : fr.tmps[3]?.getD undef = .pointer (some ⟨w.heap.size + 1, 0, none⟩) := by rw [hfr]; kernel_rfl
  have h4 : fr.tmps[4]?.getD undef = .pointer (some ⟨w.heap.size + 2, 0, none⟩) := by rw [hfr]; kernel_rfl
  have h5 : fr.tmps[5]?.getD undef = .pointer (some ⟨w.heap.size + 3, 0, none⟩) := by rw [hfr]; kernel_rfl
  have hd0 : fr.defers = [{ target := Target.fn (Fn.func 12) #[.pointer (some ⟨w.heap.size, 0, none⟩), .pointer (some ⟨w.heap.size + 1, 0, none⟩), .pointer (some ⟨w.heap.size + 2, 0, none⟩), .pointer (some ⟨w.heap.size + 3, 0, none⟩)], args := #[] }] := by rw [hfr]; kernel_rfl
  clear hfr
  have HH2 := Lib.hid h2
  have HH3 := Lib.hid h3
  have HH4 := Lib.hid h4
  have HH5 := Lib.hid h5
  clear h2 h3 h4 h5
  go_wp2_with fail
  show Leaves Try.prog Try.f7 fr.tmps _ fr.defers .returning wd
  rw [hd0]
  refine leaves_cons (f := 12) (args := #[.pointer (some ⟨w.heap.size, 0, none⟩), .pointer (some ⟨w.heap.size + 1, 0, none⟩), .pointer (some ⟨w.heap.size + 2, 0, none⟩), .pointer (some ⟨w.heap.size + 3, 0, none⟩)]) (by simp) (by simp [go_sem]) ?_
  refine (catch_idle w.heap.size wd).mono ?_
  rintro e u' w'' ⟨rfl, rfl, rfl⟩
  dsimp only [settle]
  refine ⟨_, read_results fr.tmps wd w.heap.size _ _ _ _ _ _ _ _ _ _ HH2.out HH3.out HH4.out HH5.out HRd.out, a1, c1, a2, c2, a3, c3, by rw [HAT.out], HY0.out.mono (by omega), HY1.out.mono (by omega), HY2.out.mono (by omega), HKd.out⟩

set_option maxHeartbeats 3200000 in
theorem read_short (a : Option Addr) (m cap : Nat) (dx : List UInt8) (N : Int) (P : Nat) (ys : List UInt8) (w : World)
    (hb : By w a m cap (pktS dx N P ys)) (hl : m ≤ 1000000000) (ha : ∀ b, a.map (·.block) = some b → b < w.heap.size)
    (hd : dx.length = 8) (p0 : 1 ≤ P) (p1 : P ≤ 4) (n0 : 0 ≤ N) (n1 : N < 2 ^ (8 * P)) :
    Calls Try.prog 7 #[.slice a m cap] w fun e w' => ∃ a1 c1 a3 c3, e = .returned (.tuple #[.agg #[.bool false, .int .i64 0, .int .u32 0, .slice a1 8 c1, .slice none 0 0, .int .u64 N, .int .i64 P], .slice a3 ys.length c3, .int .i64 (m : Nat), .int .i64 0]) ∧
      Bo w.heap.size w' a1 8 c1 dx ∧ Bo w.heap.size w' a3 ys.length c3 ys ∧ Below w.heap.size w w' := by
  have HP5 : Hid (Pr (rdW w (.slice a m cap)) (w.heap.size + 4) a m cap 0) := Lib.hid (rd_new w _)
  have HB5 := Lib.hid (rd_by w (.slice a m cap) hb)
  have hs5 : (rdW w (.slice a m cap)).heap.size = w.heap.size + 5 := by simp [rdW]
  have HA5 : Hid (∀ b, a.map (·.block) = some b → b < (rdW w (.slice a m cap)).heap.size) := Lib.hid (fun b hb => by have := ha b hb; omega)
  have HNE : Hid (∀ b, a.map (·.block) = some b → b ≠ w.heap.size + 4) := Lib.hid (fun b hb => by have := ha b hb; omega)
  have HS5 := Lib.hid hs5
  have HR6 := Lib.hid (res_rd w (.slice a m cap))
  have HK5 := Lib.hid (rd_below w (.slice a m cap))
  clear hb ha hs5
  have hmf : ∀ (fn : Fn) (first cap : Array Value) (w : World), (Instr.makeFunc fn first cap).run Try.prog w = .ok (.func fn first cap) w := fun _ _ _ _ => rfl
  go_enter_defers Try.func7, Try.ntmps7
  go_wp2_with fail
  refine calls_named ?_
  intro w5 hw5
  have hw5' : rdW w (.slice a m cap) = w5 := hw5
  rw [hw5'] at HP5 HB5 HS5 HA5 HR6 HK5
  clear hw5 hw5' hmf
  refine (packet_short (w.heap.size + 4) a m cap dx N P ys w5 HB5.out HP5.out hl HA5.out HNE.out hd p0 p1 n0 n1).mono ?_
  rintro e w6 ⟨a1, c1, a3, c3, rfl, ho0, ho1, hp6, hk6⟩
  rw [HS5.out] at ho0 ho1
  have HP6 := Lib.hid hp6
  have HR7 := Lib.hid (HR6.out.keep hk6 (show ¬ w.heap.size = w.heap.size + 4 by omega) (show ¬ w.heap.size + 1 = w.heap.size + 4 by omega) (show ¬ w.heap.size + 2 = w.heap.size + 4 by omega) (show ¬ w.heap.size + 3 = w.heap.size + 4 by omega))
  have HK6 := Lib.hid (Keeps.below HK5.out hk6 (by rw [HS5.out]; omega) (fun k hk => by omega))
  have HO0 := Lib.hid ho0
  have HO1 := Lib.hid ho1
  clear hp6 hk6 ho0 ho1
  obtain ⟨⟨z0, z1, z2, z3, z4, z5, z6⟩, y0, y1, y2, y3, y4, y5, y6⟩ := hd_cells HR7.out.r2
  have p3 : w6.cell? ⟨w.heap.size + 1, 0, none⟩ = some (.slice none 0 0) := HR7.out.r3.cell 0
  have q3 : w6.frozen? ⟨w.heap.size + 1, 0, none⟩ = false := HR7.out.r3.free 0
  go_upto_region 4 with fail
  have HR8 := Lib.hid (HR7.out.set1 (.bool false) (.int .i64 0) (.int .u32 0) (.slice a1 8 c1) (.slice none 0 0) (.int .u64 N) (.int .i64 P) (.slice a3 ys.length c3))
  have HP8 := Lib.hid (Blk.sets1 HP6.out (n := w.heap.size) (by omega) (by omega) (.bool false) (.int .i64 0) (.int .u32 0) (.slice a1 8 c1) (.slice none 0 0) (.int .u64 N) (.int .i64 P) (.slice a3 ys.length c3))
  have HK8 := Lib.hid (below_sets1 HK6.out (Nat.le_refl _) (.bool false) (.int .i64 0) (.int .u32 0) (.slice a1 8 c1) (.slice none 0 0) (.int .u64 N) (.int .i64 P) (.slice a3 ys.length c3))
  have HQ0 := Lib.hid (hd_bo1 HO0.out (n := w.heap.size) (by omega) (by omega) (.bool false) (.int .i64 0) (.int .u32 0) (.slice a1 8 c1) (.slice none 0 0) (.int .u64 N) (.int .i64 P) (.slice a3 ys.length c3))
  have HQ1 := Lib.hid (hd_bo1 HO1.out (n := w.heap.size) (by omega) (by omega) (.bool false) (.int .i64 0) (.int .u32 0) (.slice a1 8 c1) (.slice none 0 0) (.int .u64 N) (.int .i64 P) (.slice a3 ys.length c3))
  clear z0 z1 z2 z3 z4 z5 z6 y0 y1 y2 y3 y4 y5 y6 p3 q3
  generalize (((((((w6.setCell ⟨w.heap.size, 0, none⟩ (.bool false)).setCell ⟨w.heap.size, 1, none⟩ (.int .i64 0)).setCell ⟨w.heap.size, 2, none⟩ (.int .u32 0)).setCell ⟨w.heap.size, 3, none⟩ (.slice a1 8 c1)).setCell ⟨w.heap.size, 4, none⟩ (.slice none 0 0)).setCell ⟨w.heap.size, 5, none⟩ (.int .u64 N)).setCell ⟨w.heap.size, 6, none⟩ (.int .i64 P)).setCell ⟨w.heap.size + 1, 0, none⟩ (.slice a3 ys.length c3) = w8 at *
  refine wp_region_noPanic ?_
  refine wp_region_held (S := fun w' => w'.cell? ⟨w.heap.size, 0, none⟩ = some (.bool false) ∧ w'.cell? ⟨w.heap.size, 1, none⟩ = some (.int .i64 0) ∧ w'.cell? ⟨w.heap.size, 2, none⟩ = some (.int .u32 0) ∧ w'.cell? ⟨w.heap.size, 3, none⟩ = some (.slice a1 8 c1) ∧ w'.cell? ⟨w.heap.size, 4, none⟩ = some (.slice none 0 0) ∧ w'.cell? ⟨w.heap.size, 5, none⟩ = some (.int .u64 N) ∧ w'.cell? ⟨w.heap.size, 6, none⟩ = some (.int .i64 P) ∧ w'.cell? ⟨w.heap.size + 1, 0, none⟩ = some (.slice a3 ys.length c3) ∧ w'.cell? ⟨w.heap.size + 4, 1, none⟩ = some (.int .i64 (m : Int))) (by kernel_rfl) ?_
  change wpAnyH _ _ _ _ _ _ _ _ (World.drew _)
  have HR9 := Lib.hid HR8.out.drew
  have HP9 : Hid (Pr w8.drew (w.heap.size + 4) a m cap m) := Lib.hid (Blk.drew HP8.out)
  have HK9 := Lib.hid HK8.out.drew
  have HU0 := Lib.hid (HQ0.out.keep ((Keeps.refl (fun _ => False) w8).drew) (fun _ _ h => h))
  have HU1 := Lib.hid (HQ1.out.keep ((Keeps.refl (fun _ => False) w8).drew) (fun _ _ h => h))
  generalize w8.drew = w9 at *
  have hS := rd_S HR9.out HP9.out
  refine wpAnyH_take (i := 0) (v := ?_) rfl (by kernel_rfl) (by kernel_rfl) (by kernel_rfl) (fun _ _ _ h => h) (Or.inl ⟨by kernel_rfl, ?_⟩) hS ?_
  rotate_left
  · intro wz ⟨_, _, _, _, _, _, _, _, _⟩; go_simp; try with_reducible rfl
  refine wpAnyH_take (i := 1) (v := ?_) rfl (by kernel_rfl) (by kernel_rfl) (by kernel_rfl) (fun _ _ _ h => h) (Or.inl ⟨by kernel_rfl, ?_⟩) hS ?_
  rotate_left
  · intro wz ⟨_, _, _, _, _, _, _, _, _⟩; go_simp; try with_reducible rfl
  refine wpAnyH_take (i := 2) (v := ?_) rfl (by kernel_rfl) (by kernel_rfl) (by kernel_rfl) (fun _ _ _ h => h) (Or.inl ⟨by kernel_rfl, ?_⟩) hS ?_
  rotate_left
  · intro wz ⟨_, _, _, _, _, _, _, _, _⟩; go_simp; try with_reducible rfl
  refine wpAnyH_take (i := 3) (v := ?_) rfl (by kernel_rfl) (by kernel_rfl) (by kernel_rfl) (fun _ _ _ h => h) (Or.inl ⟨by kernel_rfl, ?_⟩) hS ?_
  rotate_left
  · intro wz ⟨_, _, _, _, _, _, _, _, _⟩; go_simp; try with_reducible rfl
  refine wpAnyH_take (i := 4) (v := ?_) rfl (by kernel_rfl) (by kernel_rfl) (by kernel_rfl) (fun _ _ _ h => h) (Or.inl ⟨by kernel_rfl, ?_⟩) hS ?_
  rotate_left
  · intro wz ⟨_, _, _, _, _, _, _, _, _⟩; go_simp; try with_reducible rfl
  refine wpAnyH_take (i := 5) (v := ?_) rfl (by kernel_rfl) (by kernel_rfl) (by kernel_rfl) (fun _ _ _ h => h) (Or.inl ⟨by kernel_rfl, ?_⟩) hS ?_
  rotate_left
  · intro wz ⟨_, _, _, _, _, _, _, _, _⟩; go_simp; try with_reducible rfl
  obtain ⟨⟨z0, z1, z2, z3, z4, z5, z6⟩, y0, y1, y2, y3, y4, y5, y6⟩ := hd_cells HR9.out.r2
  have HRa := Lib.hid (HR9.out.setH (.bool false) (.int .i64 0) (.int .u32 0) (.slice a1 8 c1) (.slice none 0 0) (.int .u64 N) (.int .i64 P))
  have HPa : Hid (Pr _ (w.heap.size + 4) a m cap m) := Lib.hid (hd_ne (c := w.heap.size) HP9.out (by omega) (.bool false) (.int .i64 0) (.int .u32 0) (.slice a1 8 c1) (.slice none 0 0) (.int .u64 N) (.int .i64 P))
  have HKa := Lib.hid (below_setH HK9.out (Nat.le_refl w.heap.size) (.bool false) (.int .i64 0) (.int .u32 0) (.slice a1 8 c1) (.slice none 0 0) (.int .u64 N) (.int .i64 P))
  have HV0 := Lib.hid (hd_bo (b := w.heap.size) HU0.out (by omega) (.bool false) (.int .i64 0) (.int .u32 0) (.slice a1 8 c1) (.slice none 0 0) (.int .u64 N) (.int .i64 P))
  have HV1 := Lib.hid (hd_bo (b := w.heap.size) HU1.out (by omega) (.bool false) (.int .i64 0) (.int .u32 0) (.slice a1 8 c1) (.slice none 0 0) (.int .u64 N) (.int .i64 P))
  refine held_skip (i := 6) (((((((w9.setCell ⟨w.heap.size, 0, none⟩ (.bool false)).setCell ⟨w.heap.size, 1, none⟩ (.int .i64 0)).setCell ⟨w.heap.size, 2, none⟩ (.int .u32 0)).setCell ⟨w.heap.size, 3, none⟩ (.slice a1 8 c1)).setCell ⟨w.heap.size, 4, none⟩ (.slice none 0 0)).setCell ⟨w.heap.size, 5, none⟩ (.int .u64 N)).setCell ⟨w.heap.size, 6, none⟩ (.int .i64 P)) rfl (by kernel_rfl) (by kernel_rfl) ?_ (rd_S HRa.out HPa.out) ?_
  · go_simp; try with_reducible rfl
  clear z0 z1 z2 z3 z4 z5 z6 y0 y1 y2 y3 y4 y5 y6 hS
  generalize (((((((w9.setCell ⟨w.heap.size, 0, none⟩ (.bool false)).setCell ⟨w.heap.size, 1, none⟩ (.int .i64 0)).setCell ⟨w.heap.size, 2, none⟩ (.int .u32 0)).setCell ⟨w.heap.size, 3, none⟩ (.slice a1 8 c1)).setCell ⟨w.heap.size, 4, none⟩ (.slice none 0 0)).setCell ⟨w.heap.size, 5, none⟩ (.int .u64 N)).setCell ⟨w.heap.size, 6, none⟩ (.int .i64 P)) = wa at *
  have p3 : wa.cell? ⟨w.heap.size + 1, 0, none⟩ = some (.slice a3 ys.length c3) := HRa.out.r3.cell 0
  have q3 : wa.frozen? ⟨w.heap.size + 1, 0, none⟩ = false := HRa.out.r3.free 0
  have HRb := Lib.hid (HRa.out.setP (.slice a3 ys.length c3))
  have HPb : Hid (Pr _ (w.heap.size + 4) a m cap m) := Lib.hid (Blk.set_ne HPa.out (a := ⟨w.heap.size + 1, 0, none⟩) (by show w.heap.size + 4 ≠ w.heap.size + 1; omega) (.slice a3 ys.length c3))
  have HKb := Lib.hid (HKa.out.setCell (p := ⟨w.heap.size + 1, 0, none⟩) (by show w.heap.size ≤ w.heap.size + 1; omega) (.slice a3 ys.length c3))
  have HW0 := Lib.hid (HV0.out.put (b := w.heap.size + 1) (o := 0) (by omega) (.slice a3 ys.length c3))
  have HW1 := Lib.hid (HV1.out.put (b := w.heap.size + 1) (o := 0) (by omega) (.slice a3 ys.length c3))
  refine held_skip (i := 7) (wa.setCell ⟨w.heap.size + 1, 0, none⟩ (.slice a3 ys.length c3)) rfl (by kernel_rfl) (by kernel_rfl) ?_ (rd_S HRb.out HPb.out) ?_
  · go_simp; try with_reducible rfl
  clear p3 q3
  generalize wa.setCell ⟨w.heap.size + 1, 0, none⟩ (.slice a3 ys.length c3) = wb at *
  have p3 : wb.cell? ⟨w.heap.size + 2, 0, none⟩ = some (.int .i64 0) := HRb.out.r4.cell 0
  have q3 : wb.frozen? ⟨w.heap.size + 2, 0, none⟩ = false := HRb.out.r4.free 0
  have HRc := Lib.hid (HRb.out.setN (.int .i64 (m : Int)))
  have HPc : Hid (Pr _ (w.heap.size + 4) a m cap m) := Lib.hid (Blk.set_ne HPb.out (a := ⟨w.heap.size + 2, 0, none⟩) (by show w.heap.size + 4 ≠ w.heap.size + 2; omega) (.int .i64 (m : Int)))
  have HKc := Lib.hid (HKb.out.setCell (p := ⟨w.heap.size + 2, 0, none⟩) (by show w.heap.size ≤ w.heap.size + 2; omega) (.int .i64 (m : Int)))
  have HX0 := Lib.hid (HW0.out.put (b := w.heap.size + 2) (o := 0) (by omega) (.int .i64 (m : Int)))
  have HX1 := Lib.hid (HW1.out.put (b := w.heap.size + 2) (o := 0) (by omega) (.int .i64 (m : Int)))
  refine held_skip (i := 8) (wb.setCell ⟨w.heap.size + 2, 0, none⟩ (.int .i64 (m : Int))) rfl (by kernel_rfl) (by kernel_rfl) ?_ (rd_S HRc.out HPc.out) ?_
  · go_simp; try with_reducible rfl
  clear p3 q3
  generalize wb.setCell ⟨w.heap.size + 2, 0, none⟩ (.int .i64 (m : Int)) = wc at *
  have p3 : wc.cell? ⟨w.heap.size + 3, 0, none⟩ = some (.int .i64 0) := HRc.out.r5.cell 0
  have q3 : wc.frozen? ⟨w.heap.size + 3, 0, none⟩ = false := HRc.out.r5.free 0
  have HRd := Lib.hid (HRc.out.setE (.int .i64 0))
  have HPd : Hid (Pr _ (w.heap.size + 4) a m cap m) := Lib.hid (Blk.set_ne HPc.out (a := ⟨w.heap.size + 3, 0, none⟩) (by show w.heap.size + 4 ≠ w.heap.size + 3; omega) (.int .i64 0))
  have HKd := Lib.hid (HKc.out.setCell (p := ⟨w.heap.size + 3, 0, none⟩) (by show w.heap.size ≤ w.heap.size + 3; omega) (.int .i64 0))
  have HY0 := Lib.hid (HX0.out.put (b := w.heap.size + 3) (o := 0) (by omega) (.int .i64 0))
  have HY1 := Lib.hid (HX1.out.put (b := w.heap.size + 3) (o := 0) (by omega) (.int .i64 0))
  refine held_skip (i := 9) (wc.setCell ⟨w.heap.size + 3, 0, none⟩ (.int .i64 0)) rfl (by kernel_rfl) (by kernel_rfl) ?_ (rd_S HRd.out HPd.out) ?_
  · go_simp; try with_reducible rfl
  clear p3 q3
  generalize wc.setCell ⟨w.heap.size + 3, 0, none⟩ (.int .i64 0) = wd at *
  refine wpAnyH_done (by kernel_rfl) ?_ _
  refine NoPanic.normal ?_
  refine then_named ?_
  intro fr hfr
  have h2 : fr.tmps[2]?.getD undef = .pointer (some ⟨w.heap.size, 0, none⟩) := by rw [hfr]; kernel_rfl
  have h3 : fr.tmps[3]?.getD undef = .pointer (some ⟨w.heap.size + 1, 0, none⟩) := by rw [hfr]; kernel_rfl
  have h4 : fr.tmps[4]?.getD undef = .pointer (some ⟨w.heap.size + 2, 0, none⟩) := by rw [hfr]; kernel_rfl
  have h5 : fr.tmps[5]?.getD undef = .pointer (some ⟨w.heap.size + 3, 0, none⟩) := by rw [hfr]; kernel_rfl
  have hd0 : fr.defers = [{ target := Target.fn (Fn.func 12) #[.pointer (some ⟨w.heap.size, 0, none⟩), .pointer (some ⟨w.heap.size + 1, 0, none⟩), .pointer (some ⟨w.heap.size + 2, 0, none⟩), .pointer (some ⟨w.heap.size + 3, 0, none⟩)], args := #[] }] := by rw [hfr]; kernel_rfl
  clear hfr
  have HH2 := Lib.hid h2
  have HH3 := Lib.hid h3
  have HH4 := Lib.hid h4
  have HH5 := Lib.hid h5
  clear h2 h3 h4 h5
  go_wp2_with fail
  show Leaves Try.prog Try.f7 fr.tmps _ fr.defers .returning wd
  rw [hd0]
  refine leaves_cons (f := 12) (args := #[.pointer (some ⟨w.heap.size, 0, none⟩), .pointer (some ⟨w.heap.size + 1, 0, none⟩), .pointer (some ⟨w.heap.size + 2, 0, none⟩), .pointer (some ⟨w.heap.size + 3, 0, none⟩)]) (by simp) (by simp [go_sem]) ?_
  refine (catch_idle w.heap.size wd).mono ?_
  rintro e u' w'' ⟨rfl, rfl, rfl⟩
  dsimp only [settle]
  refine ⟨_, read_results fr.tmps wd w.heap.size _ _ _ _ _ _ _ _ _ _ HH2.out HH3.out HH4.out HH5.out HRd.out, a1, c1, a3, c3, rfl, HY0.out.mono (by omega), HY1.out.mono (by omega), HKd.out⟩

end Go.Proofs.Ytaokhgpidifedaa
