/- Read of the package qpkt. -/
import Derived.Test.YtaokhgpidifedaaPktD
import Derived.Defers
import Derived.Recover
namespace Go.Proofs.Ytaokhgpidifedaa
open Go.RowKit Go.Deep

theorem wp_named {P : Program} {c : Code} {Q : Exit → Act → World → Prop} {a : Act} {w : World} (h : ∀ w' : World, w = w' → Code.wp P c Q a w') : Code.wp P c Q a w := h w rfl

def shortV : Value := .iface 44 (.agg #[])

set_option maxHeartbeats 800000 in
theorem packet_none (rb : Nat) (a : Option Addr) (m cap : Nat) (xs : List UInt8) (w : World)
    (hb : By w a m cap (0 :: xs)) (hr : Pr w rb a m cap 0) (hl : m ≤ 1000000000) (hne : ∀ b, a.map (·.block) = some b → b ≠ rb) :
    Calls Try.prog 13 #[.pointer (some ⟨rb, 0, none⟩)] w fun e w' => e = .panicked [{ v := shortV, recovered := false }] ∧ Keeps (fun k => k = rb) w w' := by
  have HB := Lib.hid hb
  have HR := Lib.hid hr
  have HNE := Lib.hid hne
  have hm1 : 0 + 1 ≤ m := by have := hb.1; simp at this; omega
  have HS1 := Lib.hid (HB.out.alloc (.cells #[.bool false, .int .i64 0, .int .u32 0, .slice none 0 0, .slice none 0 0, .int .u64 0, .int .i64 0] 29 (0, 0)))
  have HR1 : Hid (Pr (w.alloc (.cells #[.bool false, .int .i64 0, .int .u32 0, .slice none 0 0, .slice none 0 0, .int .u64 0, .int .i64 0] 29 (0, 0))) rb a m cap 0) := Lib.hid (Blk.alloc HR.out _)
  clear hb hr hne
  go_enter Try.func13, Try.ntmps13
  go_wp2_with fail
  refine (take_any rb a m cap (0 :: xs) 0 1 _ HS1.out HR1.out hm1 hl HNE.out).mono ?_
  rintro e w1 ⟨a1, c1, rfl, ho1, hr1, hk1⟩
  obtain ⟨g, rfl, hg0, hg1, hcell, hfree⟩ := ho1.row (by omega)
  have e0 : w1.cell? ⟨g, 0, none⟩ = some (.int .u8 0) := by rw [hcell 0 (by simp)]; rfl
  have HK := Lib.hid (((Keeps.refl (fun k => k = rb) w).alloc (.cells #[.bool false, .int .i64 0, .int .u32 0, .slice none 0 0, .slice none 0 0, .int .u64 0, .int .i64 0] 29 (0, 0))).trans hk1)
  have f2 : bits .and .u8 0 64 = 0 := by decide +kernel
  clear ho1 hr1 hk1 hcell hfree hg0
  go_wp2_with fail
  refine (must_no w1).mono ?_
  rintro e w2 ⟨rfl, rfl⟩
  go_wp2_with fail
  exact ⟨rfl, rfl, HK.out⟩

/-- The four results of Read in memory. -/
structure Res (w : World) (n : Nat) (cs : Array Value) (x3 x4 x5 : Value) : Prop where
  r2 : Blk w n cs 29
  r3 : Blk w (n + 1) #[x3] 24
  r4 : Blk w (n + 2) #[x4] 3
  r5 : Blk w (n + 3) #[x5] 32

theorem Res.alloc {w : World} {n : Nat} {cs : Array Value} {x3 x4 x5 : Value} (h : Res w n cs x3 x4 x5) (o : Obj) : Res (w.alloc o) n cs x3 x4 x5 :=
  ⟨h.r2.alloc o, h.r3.alloc o, h.r4.alloc o, h.r5.alloc o⟩
theorem Res.drew {w : World} {n : Nat} {cs : Array Value} {x3 x4 x5 : Value} (h : Res w n cs x3 x4 x5) : Res w.drew n cs x3 x4 x5 :=
  ⟨h.r2.drew, h.r3.drew, h.r4.drew, h.r5.drew⟩
theorem Res.keep {w w' : World} {n : Nat} {cs : Array Value} {x3 x4 x5 : Value} {S : Nat → Prop} (h : Res w n cs x3 x4 x5) (k : Keeps S w w') (h0 : ¬ S n) (h1 : ¬ S (n + 1)) (h2 : ¬ S (n + 2)) (h3 : ¬ S (n + 3)) : Res w' n cs x3 x4 x5 :=
  ⟨k.blk h.r2 h0, k.blk h.r3 h1, k.blk h.r4 h2, k.blk h.r5 h3⟩
theorem Res.set {w : World} {n : Nat} {u0 u1 u2 u3 u4 u5 u6 x3 x4 x5 : Value} (h : Res w n #[u0, u1, u2, u3, u4, u5, u6] x3 x4 x5) (v0 v1 v2 v3 v4 v5 v6 v7 v8 v9 : Value) :
    Res ((((((((((w.setCell ⟨n, 0, none⟩ v0).setCell ⟨n, 1, none⟩ v1).setCell ⟨n, 2, none⟩ v2).setCell ⟨n, 3, none⟩ v3).setCell ⟨n, 4, none⟩ v4).setCell ⟨n, 5, none⟩ v5).setCell ⟨n, 6, none⟩ v6).setCell ⟨n + 1, 0, none⟩ v7).setCell ⟨n + 2, 0, none⟩ v8).setCell ⟨n + 3, 0, none⟩ v9) n #[v0, v1, v2, v3, v4, v5, v6] v7 v8 v9 :=
  ⟨(((hd_set h.r2 v0 v1 v2 v3 v4 v5 v6).set_ne (a := ⟨n + 1, 0, none⟩) (by show n ≠ n + 1; omega) v7).set_ne (a := ⟨n + 2, 0, none⟩) (by show n ≠ n + 2; omega) v8).set_ne (a := ⟨n + 3, 0, none⟩) (by show n ≠ n + 3; omega) v9,
   (((hd_ne (c := n) h.r3 (by omega) v0 v1 v2 v3 v4 v5 v6).set 0 v7).set_ne (a := ⟨n + 2, 0, none⟩) (by show n + 1 ≠ n + 2; omega) v8).set_ne (a := ⟨n + 3, 0, none⟩) (by show n + 1 ≠ n + 3; omega) v9,
   (((hd_ne (c := n) h.r4 (by omega) v0 v1 v2 v3 v4 v5 v6).set_ne (a := ⟨n + 1, 0, none⟩) (by show n + 2 ≠ n + 1; omega) v7).set 0 v8).set_ne (a := ⟨n + 3, 0, none⟩) (by show n + 2 ≠ n + 3; omega) v9,
   (((hd_ne (c := n) h.r5 (by omega) v0 v1 v2 v3 v4 v5 v6).set_ne (a := ⟨n + 1, 0, none⟩) (by show n + 3 ≠ n + 1; omega) v7).set_ne (a := ⟨n + 2, 0, none⟩) (by show n + 3 ≠ n + 2; omega) v8).set 0 v9⟩
theorem below_sets {B n : Nat} {w w' : World} (h : Below B w w') (hB : B ≤ n) (v0 v1 v2 v3 v4 v5 v6 v7 v8 v9 : Value) :
    Below B w ((((((((((w'.setCell ⟨n, 0, none⟩ v0).setCell ⟨n, 1, none⟩ v1).setCell ⟨n, 2, none⟩ v2).setCell ⟨n, 3, none⟩ v3).setCell ⟨n, 4, none⟩ v4).setCell ⟨n, 5, none⟩ v5).setCell ⟨n, 6, none⟩ v6).setCell ⟨n + 1, 0, none⟩ v7).setCell ⟨n + 2, 0, none⟩ v8).setCell ⟨n + 3, 0, none⟩ v9) := by
  exact ((((((((((h.setCell (p := ⟨n, 0, none⟩) hB v0).setCell (p := ⟨n, 1, none⟩) hB v1).setCell (p := ⟨n, 2, none⟩) hB v2).setCell (p := ⟨n, 3, none⟩) hB v3).setCell (p := ⟨n, 4, none⟩) hB v4).setCell (p := ⟨n, 5, none⟩) hB v5).setCell (p := ⟨n, 6, none⟩) hB v6).setCell (p := ⟨n + 1, 0, none⟩) (show B ≤ n + 1 by omega) v7).setCell (p := ⟨n + 2, 0, none⟩) (show B ≤ n + 2 by omega) v8).setCell (p := ⟨n + 3, 0, none⟩) (show B ≤ n + 3 by omega) v9)

set_option maxHeartbeats 800000 in
theorem catch_panicking (n : Nat) (older : List PanicEntry) (u0 u1 u2 u3 u4 u5 u6 x3 x4 x5 : Value) (w : World) (h : Res w n #[u0, u1, u2, u3, u4, u5, u6] x3 x4 x5) :
    CallsD Try.prog 12 #[.pointer (some ⟨n, 0, none⟩), .pointer (some ⟨n + 1, 0, none⟩), .pointer (some ⟨n + 2, 0, none⟩), .pointer (some ⟨n + 3, 0, none⟩)] (.panicking ({ v := shortV, recovered := false } :: older)) w fun e u' w' =>
      e = .returned (.tuple #[]) ∧ u' = .panicking ({ v := shortV, recovered := true } :: older) ∧ Res w' n #[.bool false, .int .i64 0, .int .u32 0, .slice none 0 0, .slice none 0 0, .int .u64 0, .int .i64 0] (.slice none 0 0) (.int .i64 0) (.int .i64 40) ∧ Below n w w' := by
  have HR := Lib.hid h
  clear h
  refine callsD_of_wpS Try.func12 rfl fun c₀ cs hu => ?_
  apply wpS_seq
  apply wpS_region
  simp [wpOpsS, go_sem, recoverD, hu, Try.ntmps12, Exit.thenS]
  refine wpS_of_wp ?_
  generalize hQ : (fun (e : Exit) (a' : Act) (w' : World) => bodyPostS Try.prog Try.f12 c₀ cs _ e a' _ w') = Q
  have HQ := Lib.hid hQ
  clear hQ
  change Code.wp _ _ _ { tmps := #[.pointer (some ⟨n, 0, none⟩), .pointer (some ⟨n + 1, 0, none⟩), .pointer (some ⟨n + 2, 0, none⟩), .pointer (some ⟨n + 3, 0, none⟩), shortV, undef, undef, shortV, undef, undef, undef, undef, undef, undef, undef, undef, undef, undef, undef], defers := [] } _
  unfold shortV
  have hta : ∀ w : World, (Instr.typeAssert (.iface 44 (.agg #[])) 20 44 true).run Try.prog w = .ok (.tuple #[.agg #[], .bool true]) w := fun _ => by kernel_rfl
  clear hu
  go_upto_region 5 with fail
  refine wp_named ?_
  intro w5 hw5
  have hsz : n < w.heap.size := HR.out.r2.lt
  have HR1 : Hid (Res w5 n #[u0, u1, u2, u3, u4, u5, u6] x3 x4 x5) := Lib.hid (by rw [← hw5]; exact HR.out.alloc _)
  have HB1 : Hid (Below n w w5) := Lib.hid (by rw [← hw5]; exact (Below.refl n w).alloc (by omega) _)
  clear hw5 hta
  obtain ⟨⟨z0, z1, z2, z3, z4, z5, z6⟩, y0, y1, y2, y3, y4, y5, y6⟩ := hd_cells HR1.out.r2
  have p3 : w5.cell? ⟨n + 1, 0, none⟩ = some x3 := HR1.out.r3.cell 0
  have p4 : w5.cell? ⟨n + 2, 0, none⟩ = some x4 := HR1.out.r4.cell 0
  have p5 : w5.cell? ⟨n + 3, 0, none⟩ = some x5 := HR1.out.r5.cell 0
  have q3 : w5.frozen? ⟨n + 1, 0, none⟩ = false := HR1.out.r3.free 0
  have q4 : w5.frozen? ⟨n + 2, 0, none⟩ = false := HR1.out.r4.free 0
  have q5 : w5.frozen? ⟨n + 3, 0, none⟩ = false := HR1.out.r5.free 0
  go_wp2_with fail
  rw [← HQ.out]
  refine ⟨rfl, _, rfl, .tuple #[], by simp [results, Try.results12, go_sem], rfl, rfl, ?_, ?_⟩
  · exact HR1.out.set (.bool false) (.int .i64 0) (.int .u32 0) (.slice none 0 0) (.slice none 0 0) (.int .u64 0) (.int .i64 0) (.slice none 0 0) (.int .i64 0) (.int .i64 40)
  · exact below_sets HB1.out (Nat.le_refl _) (.bool false) (.int .i64 0) (.int .u32 0) (.slice none 0 0) (.slice none 0 0) (.int .u64 0) (.int .i64 0) (.slice none 0 0) (.int .i64 0) (.int .i64 40)

theorem catch_idle (n : Nat) (w : World) :
    CallsD Try.prog 12 #[.pointer (some ⟨n, 0, none⟩), .pointer (some ⟨n + 1, 0, none⟩), .pointer (some ⟨n + 2, 0, none⟩), .pointer (some ⟨n + 3, 0, none⟩)] .returning w fun e u' w' => e = .returned (.tuple #[]) ∧ u' = .returning ∧ w = w' := by
  refine callsD_of_wpS Try.func12 rfl fun c₀ cs hu => ?_
  apply wpS_seq
  apply wpS_region
  simp [wpOpsS, go_sem, recoverD, hu, Try.ntmps12, Exit.thenS]
  refine wpS_of_wp ?_
  generalize hQ : (fun (e : Exit) (a' : Act) (w' : World) => bodyPostS Try.prog Try.f12 c₀ cs _ e a' _ w') = Q
  have HQ := Lib.hid hQ
  have HU := Lib.hid hu
  clear hQ hu
  change Code.wp _ _ _ { tmps := #[.pointer (some ⟨n, 0, none⟩), .pointer (some ⟨n + 1, 0, none⟩), .pointer (some ⟨n + 2, 0, none⟩), .pointer (some ⟨n + 3, 0, none⟩), Value.nilIface, undef, undef, Value.nilIface, undef, undef, undef, undef, undef, undef, undef, undef, undef, undef, undef], defers := [] } _
  go_wp2_with fail
  rw [← HQ.out]
  cases c₀
  have hu := HU.out
  dsimp only at hu
  subst hu
  exact ⟨rfl, _, rfl, .tuple #[], by simp [results, Try.results12, go_sem], rfl, rfl, rfl⟩

end Go.Proofs.Ytaokhgpidifedaa
