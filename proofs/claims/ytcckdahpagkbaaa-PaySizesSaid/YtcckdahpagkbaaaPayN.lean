/- A payload that is right, told: settings, and the types that say nothing. -/
import Derived.Test.YtcckdahpagkbaaaPayM
import Derived.Test.YtcckdahpagkbaaaHeldZ
import Derived.IntWalk
namespace Go.Proofs.Ytcckdahpagkbaaa
open Go.RowKit Go.Deep

theorem infoS : (Try.prog.info? 42).map (fun i => (i.zero, i.size, i.bytes)) = some (some (.agg #[.int .u64 0, .int .u64 0]), 2, 16) := by kernel_rfl

theorem own_ge {base : Nat} {w : World} {e : TypeId} {size : Nat} {a : Option Addr} {n cap : Nat} {cs : List Value} (h : w.ownsRow base e size (.slice a n cap) n cs) : ∀ b, a.map (·.block) = some b → base ≤ b ∧ b < w.heap.size := by
  intro b hb
  refine h.lt b ?_
  cases a with
  | none => cases hb
  | some a => simpa [Value.ownBlock] using hb

theorem src_set (w : World) (x y : Int) : Src Try.prog 2 31 (.slice (some ⟨w.heap.size, 0, none⟩) 1 1) 1 [.int .u64 x, .int .u64 y] (w.alloc (.cells #[.int .u64 x, .int .u64 y] 42 (0, 0))) := by
  refine Src.ofSlice _ Try.underlying31 _ _ _ _ rfl (fun j u hj => ?_) (fun u hu => ?_)
  · have hb := Blk.new w #[.int .u64 x, .int .u64 y] 42
    match j with
    | 0 => exact (hb.cell 0).trans hj
    | 1 => exact (hb.cell 1).trans hj
    | j + 2 => simp at hj
  · simp at hu
    rcases hu with rfl | rfl <;> rfl

set_option maxHeartbeats 3200000 in
theorem told_4 (fl st : Int) (a : Option Addr) (n cap : Nat) (xs : List UInt8) (w : World) (hx : By w a n cap xs) (hn : n ≤ 1000000) (h6 : n % 6 = 0) :
    Calls Try.prog 18 #[FrV 4 fl st a n cap] w (Tol w) := by
  have hk0 := ((Below.refl w.heap.size w).alloc (Nat.le_refl _) (.cells #[.int .u8 4, .int .u8 fl, .int .u32 st, .slice a n cap] 30 (0, 0))).alloc (by simp) (.cells #[.slice none 0 0, .slice none 0 0, .int .u32 0, .int .u32 0, .int .u32 0] 33 (0, 0))
  have hb0 := (Blk.new w #[.int .u8 4, .int .u8 fl, .int .u32 st, .slice a n cap] 30).alloc (.cells #[.slice none 0 0, .slice none 0 0, .int .u32 0, .int .u32 0, .int .u32 0] 33 (0, 0))
  have hb1 := Blk.new (w.alloc (.cells #[.int .u8 4, .int .u8 fl, .int .u32 st, .slice a n cap] 30 (0, 0))) #[.slice none 0 0, .slice none 0 0, .int .u32 0, .int .u32 0, .int .u32 0] 33
  rw [World.size_alloc] at hb1
  have HK0 := Lib.hid hk0
  have HB0 := Lib.hid hb0
  have HB1 := Lib.hid hb1
  have HX := Lib.hid hx
  clear hk0 hb0 hb1 hx
  unfold FrV
  go_enter Try.func18, Try.ntmps18
  go_wp2_with (at_builtin; refine halt ?_)
  refine Halted.go (wpList_copy8 _ rfl _ rfl a n cap xs rfl ((HX.out.alloc _).alloc _) (by omega) ?_)
  intro a6 c6 w6 ho6 hk6
  have hs0 : ((w.alloc (.cells #[.int .u8 4, .int .u8 fl, .int .u32 st, .slice a n cap] 30 (0, 0))).alloc (.cells #[.slice none 0 0, .slice none 0 0, .int .u32 0, .int .u32 0, .int .u32 0] 33 (0, 0))).heap.size = w.heap.size + 2 := by simp
  have HF6 := Lib.hid ((Below.keeps hk6).blk HB0.out (by rw [hs0]; omega))
  have HR6 := Lib.hid ((Below.keeps hk6).blk HB1.out (by rw [hs0]; omega))
  have HK6 := Lib.hid (HK0.out.trans (hk6.mono (by rw [hs0]; omega)))
  rw [hs0] at ho6
  have HO6 := Lib.hid ho6
  have hs6 : w.heap.size + 2 ≤ w6.heap.size := by have := hk6.size; rw [hs0] at this; exact this
  have hf6 := HF6.out
  have f0 : w6.cell? ⟨w.heap.size, 0, none⟩ = some (.int .u8 4) := hf6.cell 0
  have f1 : w6.cell? ⟨w.heap.size, 1, none⟩ = some (.int .u8 fl) := hf6.cell 1
  have f2 : w6.cell? ⟨w.heap.size, 2, none⟩ = some (.int .u32 st) := hf6.cell 2
  have f3 : w6.cell? ⟨w.heap.size, 3, none⟩ = some (.slice a n cap) := hf6.cell 3
  have HX6 := Lib.hid (((HX.out.alloc _).alloc _).grow hk6)
  clear hs0 ho6 hk6 hf6 HK0 HB0 HB1 HX
  obtain ⟨i0, hi0, hz0, hz1, hz2⟩ := info_parts infoS
  have HI := Lib.hid hi0
  have HZ0 := Lib.hid hz0
  have HZ1 := Lib.hid hz1
  have HZ2 := Lib.hid hz2
  clear hi0 hz0 hz1 hz2 f1 f2 f3
  have HFP := Lib.hid (HF6.out.alloc (.cells #[.slice none 0 0, .slice none 0 0, .int .u32 0, .int .u32 0, .int .u32 0] 33 (0, 0)))
  have HRP := Lib.hid (HR6.out.alloc (.cells #[.slice none 0 0, .slice none 0 0, .int .u32 0, .int .u32 0, .int .u32 0] 33 (0, 0)))
  have HPP := Lib.hid (Blk.new w6 #[.slice none 0 0, .slice none 0 0, .int .u32 0, .int .u32 0, .int .u32 0] 33)
  have HKP := Lib.hid (HK6.out.alloc (by omega) (.cells #[.slice none 0 0, .slice none 0 0, .int .u32 0, .int .u32 0, .int .u32 0] 33 (0, 0)))
  have HOP := Lib.hid (HO6.out.by.alloc (.cells #[.slice none 0 0, .slice none 0 0, .int .u32 0, .int .u32 0, .int .u32 0] 33 (0, 0)))
  have HGE : Hid (∀ b, a6.map (·.block) = some b → b < w6.heap.size) := Lib.hid (fun b hb => (HO6.out.ge b hb).2)
  have HSP : Hid (w6.heap.size + 1 ≤ (w6.alloc (.cells #[.slice none 0 0, .slice none 0 0, .int .u32 0, .int .u32 0, .int .u32 0] 33 (0, 0))).heap.size) := Lib.hid (by simp)
  go_wp2_with fail
  go_loopg [3] (n / 6) (fun k vb wr => ∃ (a' : Option Addr) (N c' : Nat) (ys : List UInt8) (b5 : Option Addr) (m5 d5 : Nat) (cs : List Value), vb = .slice a' N c' ∧ N = 6 * k ∧ By wr a' N c' ys ∧ m5 + k ≤ 200000 ∧ Blk wr w.heap.size #[.int .u8 4, .int .u8 fl, .int .u32 st, .slice a n cap] 30 ∧ Blk wr (w.heap.size + 1) #[.slice none 0 0, .slice none 0 0, .int .u32 0, .int .u32 0, .int .u32 0] 33 ∧ Blk wr w6.heap.size #[.slice none 0 0, .slice b5 m5 d5, .int .u32 0, .int .u32 0, .int .u32 0] 33 ∧ wr.ownsRow (w6.heap.size + 1) 42 2 (.slice b5 m5 d5) m5 cs ∧ (∀ b, a'.map (·.block) = some b → b < w6.heap.size) ∧ Below w.heap.size w wr ∧ w6.heap.size + 1 ≤ wr.heap.size)
  case atStart => exact ⟨a6, n, c6, xs, none, 0, 0, [], rfl, by omega, HOP.out, by omega, HFP.out, HRP.out, HPP.out, World.ownsRow_nil _ _ _ _, HGE.out, HKP.out, HSP.out⟩
  case round =>
    obtain ⟨a', N, c', ys, b5, m5, d5, cs, rfl, hN, hy, hm5, hf, hr, hp, hd, hge, hk, hsz⟩ := hrel
    have HF := Lib.hid hf
    have HR := Lib.hid hr
    have HP := Lib.hid hp
    have HY := Lib.hid hy
    have HD := Lib.hid hd
    have HG := Lib.hid hge
    have HK := Lib.hid hk
    have HN := Lib.hid hN
    clear hf hr hp hy hd hge hk hN f0
    have f0 : wr.cell? ⟨w.heap.size, 0, none⟩ = some (.int .u8 4) := HF.out.cell 0
    by_cases hpos : 0 < N
    · have h6N : 6 ≤ N := by have := HN.out; omega
      have hc' : N ≤ c' := HY.out.2.le
      go_wp2_with fail
      refine (readbig_any a' N c' ys 2 wr HY.out).mono ?_
      rintro e w7 ⟨rfl, rfl⟩
      generalize rbV ys 2 = x
      generalize rbOK N 2 = ok
      have ho2 := offA_eq a' c' 2
      have z2 : (2 : Int) ≤ (N : Int) := by omega
      have z3 : (N : Int) ≤ (c' : Int) := by omega
      go_wp2_with fail
      refine z_begin (fun w' => w'.cell? ⟨w6.heap.size, 1, none⟩ = some (.slice b5 m5 d5)) 11 (by kernel_rfl) ?_
      have hS : wr.drew.cell? ⟨w6.heap.size, 1, none⟩ = some (.slice b5 m5 d5) := HP.out.cell 1
      refine z_take (i := 0) (v := ?_) rfl (by kernel_rfl) (by kernel_rfl) (by kernel_rfl) (by kernel_rfl) (fun _ _ _ h => h) (Or.inl ⟨by kernel_rfl, ?_⟩) hS ?_
      rotate_left
      · intro wz hz; go_simp; try with_reducible rfl
      refine z_take (i := 1) (v := ?_) rfl (by kernel_rfl) (by kernel_rfl) (by kernel_rfl) (by kernel_rfl) (fun _ _ _ h => h) (Or.inl ⟨by kernel_rfl, ?_⟩) hS ?_
      rotate_left
      · intro wz hz; go_simp; try with_reducible rfl
      refine z_take (i := 2) (v := ?_) rfl (by kernel_rfl) (by kernel_rfl) (by kernel_rfl) (by kernel_rfl) (fun _ _ _ h => h) (Or.inl ⟨by kernel_rfl, ?_⟩) hS ?_
      rotate_left
      · intro wz hz; go_simp; try with_reducible rfl
      refine z_take (i := 3) (v := ?_) rfl (by kernel_rfl) (by kernel_rfl) (by kernel_rfl) (by kernel_rfl) (fun _ _ _ h => h) (Or.inl ⟨by kernel_rfl, ?_⟩) hS ?_
      rotate_left
      · intro wz hz; go_simp; try with_reducible rfl
      refine z_take (i := 4) (v := ?_) rfl (by kernel_rfl) (by kernel_rfl) (by kernel_rfl) (by kernel_rfl) (fun _ _ _ h => h) (Or.inl ⟨by kernel_rfl, ?_⟩) hS ?_
      rotate_left
      · intro wz hz; go_simp; try with_reducible rfl
      refine z_call (i := 5) 26 #[.slice (offA a' c' 2) (N - 2) (c' - 2)] rfl (by kernel_rfl) (by kernel_rfl) (by kernel_rfl) ?_
      refine (number_any _ _ _ _ _ (By.drew' (HY.out.from 2 (by omega)))).mono ?_
      rintro e w8 ⟨⟨v, rfl, _⟩, rfl⟩
      refine ⟨_, rfl, hS, ?_⟩
      refine z_take (i := 6) (v := ?_) rfl (by kernel_rfl) (by kernel_rfl) (by kernel_rfl) (by kernel_rfl) (fun _ _ _ h => h) (Or.inl ⟨by kernel_rfl, ?_⟩) hS ?_
      rotate_left
      · intro wz hz; go_simp; try with_reducible rfl
      refine z_take (i := 7) (v := ?_) rfl (by kernel_rfl) (by kernel_rfl) (by kernel_rfl) (by kernel_rfl) (fun _ _ _ h => h) (Or.inl ⟨by kernel_rfl, ?_⟩) hS ?_
      rotate_left
      · intro wz hz; go_simp; try with_reducible rfl
      refine z_do (i := 8) (.slice (some ⟨wr.heap.size, 0, none⟩) 1 1) (wr.drew.alloc (.cells #[.int .u64 x, .int .u64 (IntKind.u64.wrap v)] 42 (0, 0))) rfl (by kernel_rfl) (by kernel_rfl) (by kernel_rfl) ?_ ?_
      · exact ((HP.out.drew).alloc (.cells #[.int .u64 x, .int .u64 (IntKind.u64.wrap v)] 42 (0, 0))).cell 1
      refine z_app (i := 9) rfl (by kernel_rfl) (by kernel_rfl) (.tmp 93) (.tmp 100) 31 31 rfl (w6.heap.size + 1) 42 i0 _ 2 16 Try.underlying31 HI.out HZ0.out HZ1.out HZ2.out rfl b5 m5 d5 cs (by kernel_rfl) (.inl (HD.out.drew.alloc (.cells #[.int .u64 x, .int .u64 (IntKind.u64.wrap v)] 42 (0, 0)))) (.slice (some ⟨wr.heap.size, 0, none⟩) 1 1) (by kernel_rfl) 1 [.int .u64 x, .int .u64 (IntKind.u64.wrap v)] (src_set wr.drew x (IntKind.u64.wrap v)) (by unfold maxLen; omega) (by omega) (by show _ ≤ (wr.drew.alloc (.cells #[.int .u64 x, .int .u64 (IntKind.u64.wrap v)] 42 (0, 0))).heap.size; rw [World.size_alloc]; have : wr.drew.heap.size = wr.heap.size := rfl; omega) ?_
      intro b6 d6 w8 _ hk8 hn8 hd8 _
      have HF8 := Lib.hid (hk8.blk (HF.out.drew.alloc (.cells #[.int .u64 x, .int .u64 (IntKind.u64.wrap v)] 42 (0, 0))) (fun h => by have := h.1; omega))
      have HR8 := Lib.hid (hk8.blk (HR.out.drew.alloc (.cells #[.int .u64 x, .int .u64 (IntKind.u64.wrap v)] 42 (0, 0))) (fun h => by have := h.1; omega))
      have HP8 := Lib.hid (hk8.blk (HP.out.drew.alloc (.cells #[.int .u64 x, .int .u64 (IntKind.u64.wrap v)] 42 (0, 0))) (fun h => by have := h.1; omega))
      have HY8 := Lib.hid (((By.drew' HY.out).alloc (.cells #[.int .u64 x, .int .u64 (IntKind.u64.wrap v)] 42 (0, 0))).keep hk8 (fun b hb h => by have := HG.out b hb; have := h.1; omega))
      have HK8 := Lib.hid (Keeps.mine_below (HK.out.drew.alloc HK.out.size (.cells #[.int .u64 x, .int .u64 (IntKind.u64.wrap v)] 42 (0, 0))) hk8 (by show _ ≤ (wr.drew.alloc (.cells #[.int .u64 x, .int .u64 (IntKind.u64.wrap v)] 42 (0, 0))).heap.size; rw [World.size_alloc]; have : wr.drew.heap.size = wr.heap.size := rfl; have := HK.out.size; omega) (by have := HK6.out.size; omega))
      have HD8 := Lib.hid (hd8 (by omega))
      have hs8 : w6.heap.size + 1 ≤ w8.heap.size := by have := hk8.size; rw [World.size_alloc] at this; have : wr.drew.heap.size = wr.heap.size := rfl; omega
      have HN8 : Hid (∀ k, b6.map (·.block) = some k → k ≠ w6.heap.size) := Lib.hid (fun k hk => by
        rcases hn8 k hk with rfl | ⟨h1, h2⟩
        · have := (own_ge HD.out k hk).1; omega
        · omega)
      clear hd8 hk8 hn8 hS
      have hS : w8.cell? ⟨w6.heap.size, 1, none⟩ = some (.slice b5 m5 d5) := HP8.out.cell 1
      refine ⟨hS, ?_⟩
      refine z_take (i := 10) (v := ?_) rfl (by kernel_rfl) (by kernel_rfl) (by kernel_rfl) (by kernel_rfl) (fun _ _ _ h => h) (Or.inl ⟨by kernel_rfl, ?_⟩) hS ?_
      rotate_left
      · intro wz hz; go_simp; try with_reducible rfl
      have q1 : w8.cell? ⟨w6.heap.size, 1, none⟩ = some (.slice b5 m5 d5) := HP8.out.cell 1
      have y1 : w8.frozen? ⟨w6.heap.size, 1, none⟩ = false := HP8.out.free 1
      refine z_last (w8.setCell ⟨w6.heap.size, 1, none⟩ (.slice b6 (m5 + 1) d6)) rfl (by kernel_rfl) (by kernel_rfl) ?_ (by kernel_rfl) ?_
      · go_simp; try with_reducible rfl
      have HFE := Lib.hid (HF8.out.set_ne (a := ⟨w6.heap.size, 1, none⟩) (by show w.heap.size ≠ w6.heap.size; omega) (.slice b6 (m5 + 1) d6))
      have HRE := Lib.hid (HR8.out.set_ne (a := ⟨w6.heap.size, 1, none⟩) (by show w.heap.size + 1 ≠ w6.heap.size; omega) (.slice b6 (m5 + 1) d6))
      have HPE := Lib.hid (HP8.out.set 1 (.slice b6 (m5 + 1) d6))
      have hkE := (Keeps.refl (fun k => k = w6.heap.size) w8).put 1 (.slice b6 (m5 + 1) d6)
      have HYE := Lib.hid (HY8.out.keep hkE (fun b hb h => by have := HG.out b hb; omega))
      have HDE := Lib.hid (own_keep HD8.out hkE (fun b hb h => HN8.out b hb h))
      have HKE := Lib.hid (Keeps.below HK8.out hkE HK8.out.size (fun k hk => by have := HK6.out.size; omega))
      have hsE : w6.heap.size + 1 ≤ (w8.setCell ⟨w6.heap.size, 1, none⟩ (.slice b6 (m5 + 1) d6)).heap.size := Nat.le_trans hs8 hkE.size
      clear hkE q1 y1 hS ho2 z2
      generalize w8.setCell ⟨w6.heap.size, 1, none⟩ (.slice b6 (m5 + 1) d6) = w9 at *
      have hyE := HYE.out.from 6 (by omega)
      have z6 : (6 : Int) ≤ (N : Int) := by omega
      by_cases h6c : c' = 6
      · subst h6c
        obtain rfl : N = 6 := by omega
        rw [show offA a' 6 6 = a' from if_pos rfl] at hyE
        have HYD := Lib.hid hyE
        clear hyE
        go_wp2_with fail
        go_roundg (gk - 1)
        case measure => have := HN.out; omega
        case rel => exact ⟨a', 0, _, ys.drop 6, b6, m5 + 1, d6, _, rfl, by have := HN.out; omega, HYD.out, by have := HN.out; omega, HFE.out, HRE.out, HPE.out, HDE.out, HG.out, HKE.out, hsE⟩
      · rw [show offA a' c' 6 = a'.map (fun x => (⟨x.block, x.off + 6, none⟩ : Addr)) from if_neg h6c] at hyE
        have HYD := Lib.hid hyE
        clear hyE
        go_wp2_with fail
        go_roundg (gk - 1)
        case measure => have := HN.out; omega
        case rel => exact ⟨a'.map (fun x => (⟨x.block, x.off + 6, none⟩ : Addr)), N - 6, _, ys.drop 6, b6, m5 + 1, d6, _, rfl, by have := HN.out; omega, HYD.out, by have := HN.out; omega, HFE.out, HRE.out, HPE.out, HDE.out, fun b hb => HG.out b (by cases a' <;> simp_all), HKE.out, hsE⟩
    · obtain rfl : N = 0 := by omega
      obtain ⟨⟨q0, q1, q2, q3, q4⟩, _⟩ := pay_cells HP.out
      obtain ⟨⟨p0, p1, p2, p3, p4⟩, z0, z1, z2, z3, z4⟩ := pay_cells HR.out
      have HBF := Lib.hid (pay_set HR.out (.slice none 0 0) (.slice b5 m5 d5) (.int .u32 0) (.int .u32 0) (.int .u32 0))
      have HKF := Lib.hid (Keeps.below HK.out (pay_keep wr (w.heap.size + 1) (.slice none 0 0) (.slice b5 m5 d5) (.int .u32 0) (.int .u32 0) (.int .u32 0)) HK.out.size (fun k hk => by omega))
      go_wp2_with fail
      clear p0 p1 p2 p3 p4 z0 z1 z2 z3 z4 f0 q0 q1 q2 q3 q4
      obtain ⟨⟨s0, s1, s2, s3, s4⟩, _⟩ := pay_cells HBF.out
      (try simp only [Exit.inBlock, Exit.then])
      refine bodyPost_ret (by simp [results, Try.results18, go_sem, s0, s1, s2, s3, s4]; try rfl) rfl ?_
      exact ⟨_, _, _, _, _, _, _, _, rfl, HKF.out⟩

set_option maxHeartbeats 3200000 in
theorem told_10 (fl st : Int) (a : Option Addr) (n cap : Nat) (xs : List UInt8) (w : World) (hx : By w a n cap xs) (hn : n ≤ 1000000) :
    Calls Try.prog 18 #[FrV 10 fl st a n cap] w (Tol w) := by
  have hk0 := ((Below.refl w.heap.size w).alloc (Nat.le_refl _) (.cells #[.int .u8 10, .int .u8 fl, .int .u32 st, .slice a n cap] 30 (0, 0))).alloc (by simp) (.cells #[.slice none 0 0, .slice none 0 0, .int .u32 0, .int .u32 0, .int .u32 0] 33 (0, 0))
  have hb0 := (Blk.new w #[.int .u8 10, .int .u8 fl, .int .u32 st, .slice a n cap] 30).alloc (.cells #[.slice none 0 0, .slice none 0 0, .int .u32 0, .int .u32 0, .int .u32 0] 33 (0, 0))
  have hb1 := Blk.new (w.alloc (.cells #[.int .u8 10, .int .u8 fl, .int .u32 st, .slice a n cap] 30 (0, 0))) #[.slice none 0 0, .slice none 0 0, .int .u32 0, .int .u32 0, .int .u32 0] 33
  rw [World.size_alloc] at hb1
  have HK0 := Lib.hid hk0
  have HB0 := Lib.hid hb0
  have HB1 := Lib.hid hb1
  have HX := Lib.hid hx
  clear hk0 hb0 hb1 hx
  unfold FrV
  go_enter Try.func18, Try.ntmps18
  go_wp2_with (at_builtin; refine halt ?_)
  refine Halted.go (wpList_copy8 _ rfl _ rfl a n cap xs rfl ((HX.out.alloc _).alloc _) (by omega) ?_)
  intro a6 c6 w6 ho6 hk6
  have hs0 : ((w.alloc (.cells #[.int .u8 10, .int .u8 fl, .int .u32 st, .slice a n cap] 30 (0, 0))).alloc (.cells #[.slice none 0 0, .slice none 0 0, .int .u32 0, .int .u32 0, .int .u32 0] 33 (0, 0))).heap.size = w.heap.size + 2 := by simp
  have HF6 := Lib.hid ((Below.keeps hk6).blk HB0.out (by rw [hs0]; omega))
  have HR6 := Lib.hid ((Below.keeps hk6).blk HB1.out (by rw [hs0]; omega))
  have HK6 := Lib.hid (HK0.out.trans (hk6.mono (by rw [hs0]; omega)))
  rw [hs0] at ho6
  have HO6 := Lib.hid ho6
  have hs6 : w.heap.size + 2 ≤ w6.heap.size := by have := hk6.size; rw [hs0] at this; exact this
  have hf6 := HF6.out
  have f0 : w6.cell? ⟨w.heap.size, 0, none⟩ = some (.int .u8 10) := hf6.cell 0
  have f1 : w6.cell? ⟨w.heap.size, 1, none⟩ = some (.int .u8 fl) := hf6.cell 1
  have f2 : w6.cell? ⟨w.heap.size, 2, none⟩ = some (.int .u32 st) := hf6.cell 2
  have f3 : w6.cell? ⟨w.heap.size, 3, none⟩ = some (.slice a n cap) := hf6.cell 3
  have HX6 := Lib.hid (((HX.out.alloc _).alloc _).grow hk6)
  clear hs0 ho6 hk6 hf6 HK0 HB0 HB1 HX
  clear f1 f2 f3
  have HFP := Lib.hid (HF6.out.alloc (.cells #[.slice none 0 0, .slice none 0 0, .int .u32 0, .int .u32 0, .int .u32 0] 33 (0, 0)))
  have HRP := Lib.hid (HR6.out.alloc (.cells #[.slice none 0 0, .slice none 0 0, .int .u32 0, .int .u32 0, .int .u32 0] 33 (0, 0)))
  have HPP := Lib.hid (Blk.new w6 #[.slice none 0 0, .slice none 0 0, .int .u32 0, .int .u32 0, .int .u32 0] 33)
  have HKP := Lib.hid (HK6.out.alloc (by omega) (.cells #[.slice none 0 0, .slice none 0 0, .int .u32 0, .int .u32 0, .int .u32 0] 33 (0, 0)))
  go_wp2_with fail
  go_loopg [3] 0 (fun k vb wr => vb = .slice a6 n c6 ∧ wr = w6.alloc (.cells #[.slice none 0 0, .slice none 0 0, .int .u32 0, .int .u32 0, .int .u32 0] 33 (0, 0)))
  case atStart => exact ⟨rfl, rfl⟩
  case round =>
    obtain ⟨rfl, rfl⟩ := hrel
    clear f0
    have f0 : (w6.alloc (.cells #[.slice none 0 0, .slice none 0 0, .int .u32 0, .int .u32 0, .int .u32 0] 33 (0, 0))).cell? ⟨w.heap.size, 0, none⟩ = some (.int .u8 10) := HFP.out.cell 0
    obtain ⟨⟨q0, q1, q2, q3, q4⟩, _⟩ := pay_cells HPP.out
    obtain ⟨⟨p0, p1, p2, p3, p4⟩, z0, z1, z2, z3, z4⟩ := pay_cells HRP.out
    have HBF := Lib.hid (pay_set HRP.out (.slice none 0 0) (.slice none 0 0) (.int .u32 0) (.int .u32 0) (.int .u32 0))
    have HKF := Lib.hid (Keeps.below HKP.out (pay_keep (w6.alloc (.cells #[.slice none 0 0, .slice none 0 0, .int .u32 0, .int .u32 0, .int .u32 0] 33 (0, 0))) (w.heap.size + 1) (.slice none 0 0) (.slice none 0 0) (.int .u32 0) (.int .u32 0) (.int .u32 0)) HKP.out.size (fun k hk => by omega))
    go_wp2_with fail
    clear p0 p1 p2 p3 p4 z0 z1 z2 z3 z4 f0 q0 q1 q2 q3 q4
    obtain ⟨⟨s0, s1, s2, s3, s4⟩, _⟩ := pay_cells HBF.out
    (try simp only [Exit.inBlock, Exit.then])
    refine bodyPost_ret (by simp [results, Try.results18, go_sem, s0, s1, s2, s3, s4]; try rfl) rfl ?_
    exact ⟨_, _, _, _, _, _, _, _, rfl, HKF.out⟩

set_option maxHeartbeats 3200000 in
theorem told_11 (fl st : Int) (a : Option Addr) (n cap : Nat) (xs : List UInt8) (w : World) (hx : By w a n cap xs) (hn : n ≤ 1000000) :
    Calls Try.prog 18 #[FrV 11 fl st a n cap] w (Tol w) := by
  have hk0 := ((Below.refl w.heap.size w).alloc (Nat.le_refl _) (.cells #[.int .u8 11, .int .u8 fl, .int .u32 st, .slice a n cap] 30 (0, 0))).alloc (by simp) (.cells #[.slice none 0 0, .slice none 0 0, .int .u32 0, .int .u32 0, .int .u32 0] 33 (0, 0))
  have hb0 := (Blk.new w #[.int .u8 11, .int .u8 fl, .int .u32 st, .slice a n cap] 30).alloc (.cells #[.slice none 0 0, .slice none 0 0, .int .u32 0, .int .u32 0, .int .u32 0] 33 (0, 0))
  have hb1 := Blk.new (w.alloc (.cells #[.int .u8 11, .int .u8 fl, .int .u32 st, .slice a n cap] 30 (0, 0))) #[.slice none 0 0, .slice none 0 0, .int .u32 0, .int .u32 0, .int .u32 0] 33
  rw [World.size_alloc] at hb1
  have HK0 := Lib.hid hk0
  have HB0 := Lib.hid hb0
  have HB1 := Lib.hid hb1
  have HX := Lib.hid hx
  clear hk0 hb0 hb1 hx
  unfold FrV
  go_enter Try.func18, Try.ntmps18
  go_wp2_with (at_builtin; refine halt ?_)
  refine Halted.go (wpList_copy8 _ rfl _ rfl a n cap xs rfl ((HX.out.alloc _).alloc _) (by omega) ?_)
  intro a6 c6 w6 ho6 hk6
  have hs0 : ((w.alloc (.cells #[.int .u8 11, .int .u8 fl, .int .u32 st, .slice a n cap] 30 (0, 0))).alloc (.cells #[.slice none 0 0, .slice none 0 0, .int .u32 0, .int .u32 0, .int .u32 0] 33 (0, 0))).heap.size = w.heap.size + 2 := by simp
  have HF6 := Lib.hid ((Below.keeps hk6).blk HB0.out (by rw [hs0]; omega))
  have HR6 := Lib.hid ((Below.keeps hk6).blk HB1.out (by rw [hs0]; omega))
  have HK6 := Lib.hid (HK0.out.trans (hk6.mono (by rw [hs0]; omega)))
  rw [hs0] at ho6
  have HO6 := Lib.hid ho6
  have hs6 : w.heap.size + 2 ≤ w6.heap.size := by have := hk6.size; rw [hs0] at this; exact this
  have hf6 := HF6.out
  have f0 : w6.cell? ⟨w.heap.size, 0, none⟩ = some (.int .u8 11) := hf6.cell 0
  have f1 : w6.cell? ⟨w.heap.size, 1, none⟩ = some (.int .u8 fl) := hf6.cell 1
  have f2 : w6.cell? ⟨w.heap.size, 2, none⟩ = some (.int .u32 st) := hf6.cell 2
  have f3 : w6.cell? ⟨w.heap.size, 3, none⟩ = some (.slice a n cap) := hf6.cell 3
  have HX6 := Lib.hid (((HX.out.alloc _).alloc _).grow hk6)
  clear hs0 ho6 hk6 hf6 HK0 HB0 HB1 HX
  clear f1 f2 f3
  have HFP := Lib.hid (HF6.out.alloc (.cells #[.slice none 0 0, .slice none 0 0, .int .u32 0, .int .u32 0, .int .u32 0] 33 (0, 0)))
  have HRP := Lib.hid (HR6.out.alloc (.cells #[.slice none 0 0, .slice none 0 0, .int .u32 0, .int .u32 0, .int .u32 0] 33 (0, 0)))
  have HPP := Lib.hid (Blk.new w6 #[.slice none 0 0, .slice none 0 0, .int .u32 0, .int .u32 0, .int .u32 0] 33)
  have HKP := Lib.hid (HK6.out.alloc (by omega) (.cells #[.slice none 0 0, .slice none 0 0, .int .u32 0, .int .u32 0, .int .u32 0] 33 (0, 0)))
  go_wp2_with fail
  go_loopg [3] 0 (fun k vb wr => vb = .slice a6 n c6 ∧ wr = w6.alloc (.cells #[.slice none 0 0, .slice none 0 0, .int .u32 0, .int .u32 0, .int .u32 0] 33 (0, 0)))
  case atStart => exact ⟨rfl, rfl⟩
  case round =>
    obtain ⟨rfl, rfl⟩ := hrel
    clear f0
    have f0 : (w6.alloc (.cells #[.slice none 0 0, .slice none 0 0, .int .u32 0, .int .u32 0, .int .u32 0] 33 (0, 0))).cell? ⟨w.heap.size, 0, none⟩ = some (.int .u8 11) := HFP.out.cell 0
    obtain ⟨⟨q0, q1, q2, q3, q4⟩, _⟩ := pay_cells HPP.out
    obtain ⟨⟨p0, p1, p2, p3, p4⟩, z0, z1, z2, z3, z4⟩ := pay_cells HRP.out
    have HBF := Lib.hid (pay_set HRP.out (.slice none 0 0) (.slice none 0 0) (.int .u32 0) (.int .u32 0) (.int .u32 0))
    have HKF := Lib.hid (Keeps.below HKP.out (pay_keep (w6.alloc (.cells #[.slice none 0 0, .slice none 0 0, .int .u32 0, .int .u32 0, .int .u32 0] 33 (0, 0))) (w.heap.size + 1) (.slice none 0 0) (.slice none 0 0) (.int .u32 0) (.int .u32 0) (.int .u32 0)) HKP.out.size (fun k hk => by omega))
    go_wp2_with fail
    clear p0 p1 p2 p3 p4 z0 z1 z2 z3 z4 f0 q0 q1 q2 q3 q4
    obtain ⟨⟨s0, s1, s2, s3, s4⟩, _⟩ := pay_cells HBF.out
    (try simp only [Exit.inBlock, Exit.then])
    refine bodyPost_ret (by simp [results, Try.results18, go_sem, s0, s1, s2, s3, s4]; try rfl) rfl ?_
    exact ⟨_, _, _, _, _, _, _, _, rfl, HKF.out⟩

end Go.Proofs.Ytcckdahpagkbaaa
