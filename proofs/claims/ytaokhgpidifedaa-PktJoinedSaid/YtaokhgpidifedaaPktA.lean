/- The reader of the package qpkt: must, take, big, id. -/
import Derived.Test.YtaokhgpidifedaaH3A
import Derived.Test.YtaokhgpidifedaaHeldY
import Derived.Test.YtaokhgpidifedaaMake8
import Derived.Deep.RegionHeld3
import Derived.Deep.DeepCutAuto
import Derived.Defers
import Derived.Recover
namespace Go.Proofs.Ytaokhgpidifedaa
open Go.RowKit Go.Deep

theorem By.drew2 {w : World} {a : Option Addr} {n cap : Nat} {xs : List UInt8} (h : By w a n cap xs) : By w.drew a n cap xs := h.keep ((Keeps.refl (fun _ => False) w).drew) (fun _ _ h => h)

theorem offA_block {a : Option Addr} {cap lo b : Nat} (h : (offA a cap lo).map (·.block) = some b) : a.map (·.block) = some b := by
  unfold offA at h
  split at h
  · exact h
  · cases a with
    | none => exact h
    | some x =>
      simp only [Option.map_some, Option.some.injEq] at h ⊢
      rw [← h]
      unfold Addr.add
      split <;> rfl

theorem must_ok (w : World) : Calls Try.prog 19 #[.bool true] w fun e w' => e = .returned (.tuple #[]) ∧ w = w' := by
  go_enter Try.func19, Try.ntmps19
  go_wp2_with fail
  go_end0
  exact ⟨rfl, rfl⟩

theorem must_no (w : World) : Calls Try.prog 19 #[.bool false] w fun e w' => e = .panicked [{ v := .iface 44 (.agg #[]), recovered := false }] ∧ w = w' := by
  go_enter Try.func19, Try.ntmps19
  go_wp2_with fail
  exact ⟨rfl, rfl, rfl⟩

/-- A reader in memory. -/
def Pr (w : World) (rb : Nat) (a : Option Addr) (m cap : Nat) (at_ : Nat) : Prop := Blk w rb #[.slice a m cap, .int .i64 (at_ : Int)] 48
theorem Pr.cells {w : World} {rb : Nat} {a : Option Addr} {m cap at_ : Nat} (h : Pr w rb a m cap at_) :
    (w.cell? ⟨rb, 0, none⟩ = some (.slice a m cap) ∧ w.cell? ⟨rb, 1, none⟩ = some (.int .i64 (at_ : Int))) ∧ w.frozen? ⟨rb, 1, none⟩ = false :=
  ⟨⟨Blk.cell h 0, Blk.cell h 1⟩, Blk.free h 1⟩

set_option maxRecDepth 100000 in
set_option maxHeartbeats 1600000 in
theorem take_any (rb : Nat) (a : Option Addr) (m cap : Nat) (xs : List UInt8) (at_ k : Nat) (w : World) (hb : By w a m cap xs) (hr : Pr w rb a m cap at_) (hat : at_ + k ≤ m) (hl : m ≤ 1000000000) (hne : ∀ b, a.map (·.block) = some b → b ≠ rb) :
    Calls Try.prog 18 #[.pointer (some ⟨rb, 0, none⟩), .int .i64 (k : Int)] w fun e w' => ∃ a1 c1, e = .returned (.slice a1 k c1) ∧ Bo w.heap.size w' a1 k c1 ((xs.drop at_).take k) ∧ Pr w' rb a m cap (at_ + k) ∧ Keeps (fun k => k = rb) w w' := by
  have hcap := hb.2.le
  have hmax := hb.2.max
  unfold maxLen at hmax
  have HB := Lib.hid hb
  have HR := Lib.hid hr
  have HN := Lib.hid hb.1
  have hrb := hr.lt
  clear hb hr
  obtain ⟨⟨c0, c1⟩, y1⟩ := HR.out.cells
  have z1 : (0 : Int) ≤ (at_ : Int) := by omega
  have z2 : (at_ : Int) + (k : Int) ≤ (m : Int) := by omega
  have z3 : (m : Int) ≤ (cap : Int) := by omega
  have z4 : (k : Int) ≤ (m : Int) - (at_ : Int) := by omega
  have hwi : IntKind.i64.wrap ((m : Int) - (at_ : Int)) = (m : Int) - (at_ : Int) := by rw [IntKind.wrap_i64]; omega
  have hd : decide ((k : Int) ≤ (m : Int) - (at_ : Int)) = true := decide_eq_true z4
  have HSRC := Lib.hid (HB.out.mid at_ (at_ + k) (by omega) hat)
  rw [show at_ + k - at_ = k by omega] at HSRC
  go_enter Try.func18, Try.ntmps18
  go_wp2_with fail
  go_region_held3 (fun w' => w'.cell? ⟨rb, 0, none⟩ = some (.slice a m cap) ∧ w'.cell? ⟨rb, 1, none⟩ = some (.int .i64 (at_ : Int))) (first | exact ⟨c0, c1⟩ | go_keep) ((go_at_call 19; refine (must_ok _).mono ?_; rintro e w' ⟨rfl, rfl⟩; dsimp only))
  have HR2 : Hid (Pr (w.setCell ⟨rb, 1, none⟩ (.int .i64 ((at_ : Int) + (k : Int)))).drew rb a m cap (at_ + k)) := Lib.hid (by
    have h := Blk.drew (Blk.set HR.out 1 (.int .i64 ((at_ : Int) + (k : Int))))
    unfold Pr
    rw [show ((at_ + k : Nat) : Int) = (at_ : Int) + (k : Int) by omega]
    exact h)
  have HKP := Lib.hid ((((Keeps.refl (fun k => k = rb) w).put 1 (.int .i64 ((at_ : Int) + (k : Int)))).drew))
  have HSR2 := Lib.hid (HSRC.out.keep HKP.out (fun b hb => hne b (offA_block hb)))
  rename_i hheld
  clear hheld
  go_upto_region 3 with fail
  clear hwi hd
  generalize hw2 : (w.setCell ⟨rb, 1, none⟩ (.int .i64 ((at_ : Int) + (k : Int)))).drew = w2 at *
  have hs2 : w.heap.size ≤ w2.heap.size := HKP.out.size
  clear hw2 c0 c1 y1
  have ho := offA_eq a cap at_
  have hwb : IntKind.i64.wrap (at_ : Int) = (at_ : Int) := by rw [IntKind.wrap_i64]; omega
  have hwa : IntKind.i64.wrap ((at_ : Int) + (k : Int) - (k : Int)) = (at_ : Int) := by rw [IntKind.wrap_i64]; omega
  have x2 : (at_ : Int) ≤ (at_ : Int) + (k : Int) := by omega
  have x3 : (at_ : Int) + (k : Int) ≤ (cap : Int) := by omega
  have x4 : (0 : Int) ≤ (at_ : Int) + (k : Int) := by omega
  have x5 : ((at_ : Int) + (k : Int)).toNat = at_ + k := by omega
  have x6 : at_ + k - at_ = k := by omega
  have x7 : (at_ : Int) ≤ (cap : Int) := by omega
  obtain ⟨⟨c0, c1⟩, _⟩ := HR2.out.cells
  rw [show ((at_ + k : Nat) : Int) = (at_ : Int) + (k : Int) by omega] at c1
  refine wp_region_held (S := fun w' => w'.cell? ⟨rb, 0, none⟩ = some (.slice a m cap) ∧ w'.cell? ⟨rb, 1, none⟩ = some (.int .i64 ((at_ : Int) + (k : Int)))) (by kernel_rfl) ?_
  change wpAnyH _ _ _ _ _ _ _ _ (World.drew _)
  have hS : (fun w' : World => w'.cell? ⟨rb, 0, none⟩ = some (.slice a m cap) ∧ w'.cell? ⟨rb, 1, none⟩ = some (.int .i64 ((at_ : Int) + (k : Int)))) w2.drew := ⟨c0, c1⟩
  refine wpAnyH_take (i := 0) (v := ?_) rfl (by kernel_rfl) (by kernel_rfl) (by kernel_rfl) (fun _ _ _ h => h) (Or.inl ⟨by kernel_rfl, ?_⟩) hS ?_
  rotate_left
  · intro wz ⟨_, _⟩; go_simp; try with_reducible rfl
  refine wpAnyH_take (i := 1) (v := ?_) rfl (by kernel_rfl) (by kernel_rfl) (by kernel_rfl) (fun _ _ _ h => h) (Or.inl ⟨by kernel_rfl, ?_⟩) hS ?_
  rotate_left
  · intro wz ⟨_, _⟩; go_simp; try with_reducible rfl
  refine wpAnyH_take (i := 2) (v := ?_) rfl (by kernel_rfl) (by kernel_rfl) (by kernel_rfl) (fun _ _ _ h => h) (Or.inl ⟨by kernel_rfl, ?_⟩) hS ?_
  rotate_left
  · intro wz ⟨_, _⟩; go_simp; try with_reducible rfl
  refine wpAnyH_take (i := 3) (v := ?_) rfl (by kernel_rfl) (by kernel_rfl) (by kernel_rfl) (fun _ _ _ h => h) (Or.inl ⟨by kernel_rfl, ?_⟩) hS ?_
  rotate_left
  · intro wz ⟨_, _⟩; go_simp; try with_reducible rfl
  refine wpAnyH_take (i := 4) (v := ?_) rfl (by kernel_rfl) (by kernel_rfl) (by kernel_rfl) (fun _ _ _ h => h) (Or.inl ⟨by kernel_rfl, ?_⟩) hS ?_
  rotate_left
  · intro wz ⟨_, _⟩; go_simp; try with_reducible rfl
  refine wpAnyH_take (i := 5) (v := ?_) rfl (by kernel_rfl) (by kernel_rfl) (by kernel_rfl) (fun _ _ _ h => h) (Or.inl ⟨by kernel_rfl, ?_⟩) hS ?_
  rotate_left
  · intro wz ⟨_, _⟩; go_simp; try with_reducible rfl
  refine wpAnyH_take (i := 6) (v := ?_) rfl (by kernel_rfl) (by kernel_rfl) (by kernel_rfl) (fun _ _ _ h => h) (Or.inl ⟨by kernel_rfl, ?_⟩) hS ?_
  rotate_left
  · intro wz ⟨_, _⟩; go_simp; try with_reducible rfl
  refine wpAnyH_take (i := 7) (v := ?_) rfl (by kernel_rfl) (by kernel_rfl) (by kernel_rfl) (fun _ _ _ h => h) (Or.inl ⟨by kernel_rfl, ?_⟩) hS ?_
  rotate_left
  · intro wz ⟨_, _⟩; go_simp; try with_reducible rfl
  refine wpAnyH_take (i := 8) (v := ?_) rfl (by kernel_rfl) (by kernel_rfl) (by kernel_rfl) (fun _ _ _ h => h) (Or.inl ⟨by kernel_rfl, ?_⟩) hS ?_
  rotate_left
  · intro wz ⟨_, _⟩; go_simp; try with_reducible rfl
  refine wpAnyH_take (i := 9) (v := ?_) rfl (by kernel_rfl) (by kernel_rfl) (by kernel_rfl) (fun _ _ _ h => h) (Or.inl ⟨by kernel_rfl, ?_⟩) hS ?_
  rotate_left
  · intro wz ⟨_, _⟩; go_simp; try with_reducible rfl
  refine wpAnyH_take (i := 10) (v := ?_) rfl (by kernel_rfl) (by kernel_rfl) (by kernel_rfl) (fun _ _ _ h => h) (Or.inl ⟨by kernel_rfl, ?_⟩) hS ?_
  rotate_left
  · intro wz ⟨_, _⟩; go_simp; try with_reducible rfl
  refine wpAnyH_take (i := 11) (v := ?_) rfl (by kernel_rfl) (by kernel_rfl) (by kernel_rfl) (fun _ _ _ h => h) (Or.inl ⟨by kernel_rfl, ?_⟩) hS ?_
  rotate_left
  · intro wz ⟨_, _⟩; go_simp; try with_reducible rfl
  refine wpAnyH_take (i := 12) (v := ?_) rfl (by kernel_rfl) (by kernel_rfl) (by kernel_rfl) (fun _ _ _ h => h) (Or.inl ⟨by kernel_rfl, ?_⟩) hS ?_
  rotate_left
  · intro wz ⟨_, _⟩; go_simp; try with_reducible rfl
  refine wpAnyH_take (i := 13) (v := ?_) rfl (by kernel_rfl) (by kernel_rfl) (by kernel_rfl) (fun _ _ _ h => h) (Or.inl ⟨by kernel_rfl, ?_⟩) hS ?_
  rotate_left
  · intro wz ⟨_, _⟩; go_simp; try with_reducible rfl
  refine wpAnyH_take (i := 14) (v := ?_) rfl (by kernel_rfl) (by kernel_rfl) (by kernel_rfl) (fun _ _ _ h => h) (Or.inl ⟨by kernel_rfl, ?_⟩) hS ?_
  rotate_left
  · intro wz ⟨_, _⟩; go_simp; try with_reducible rfl
  obtain ⟨i0, hi0, hz0, hz1, hz2⟩ := info_parts info8
  refine held_app (i := 15) rfl (by kernel_rfl) (by kernel_rfl) (.const (.slice none 0 0)) (.tmp 40) 24 24 rfl w2.heap.size 5 i0 _ 1 1 Try.underlying24 hi0 hz0 hz1 hz2 rfl none 0 0 (Bs []) (by kernel_rfl) (Dst.nil _ _ _ _) (.slice (offA a cap at_) k (cap - at_)) (by kernel_rfl) k (Bs ((xs.drop at_).take k)) ((By.drew2 HSR2.out).2.src Try.underlying24 (Bs_one _)) (by unfold maxLen; omega) (by omega) (Nat.le_refl _) ?_
  intro a6 c6 w6 _ hk6 _ hown6 hnil6
  have hbo : Bo w.heap.size w6 a6 k c6 ((xs.drop at_).take k) := by
    have hlen : ((xs.drop at_).take k).length = k := HSRC.out.1.symm
    by_cases h0 : k = 0
    · obtain ⟨rfl, rfl, rfl⟩ := hnil6 h0
      subst h0
      simpa using Bo.nil _ _
    · refine Bo.mono ⟨hlen.symm, ?_⟩ hs2
      have h := hown6 (by omega)
      rwa [Nat.zero_add] at h
  have HO6 := Lib.hid hbo
  have hk6' : Keeps (fun k => k = rb) w2 w6 := ((Keeps.refl (fun k => k = rb) w2).drew).trans (hk6.mono (fun k _ h => by cases h.2))
  have HK6 : Hid (Keeps (fun k => k = rb) w w6) := Lib.hid (HKP.out.trans hk6')
  have HR6 : Hid (Pr w6 rb a m cap (at_ + k)) := Lib.hid (hk6.blk (show Blk w2.drew rb _ _ from Blk.drew HR2.out) (fun h => by cases h.2))
  clear hk6 hk6' hown6 hnil6 hbo hi0 hz0 hz1 hz2 hS c0 c1
  obtain ⟨⟨c0, c1⟩, _⟩ := HR6.out.cells
  rw [show ((at_ + k : Nat) : Int) = (at_ : Int) + (k : Int) by omega] at c1
  have hS : (fun w' : World => w'.cell? ⟨rb, 0, none⟩ = some (.slice a m cap) ∧ w'.cell? ⟨rb, 1, none⟩ = some (.int .i64 ((at_ : Int) + (k : Int)))) w6 := ⟨c0, c1⟩
  refine ⟨hS, ?_⟩
  refine wpAnyH_take (i := 16) (v := ?_) rfl (by kernel_rfl) (by kernel_rfl) (by kernel_rfl) (fun _ _ _ h => h) (Or.inl ⟨by kernel_rfl, ?_⟩) hS ?_
  rotate_left
  · intro wz ⟨_, _⟩; go_simp; try with_reducible rfl
  refine wpAnyH_done (by kernel_rfl) ?_ _
  clear hS
  go_wp2_with fail
  go_returns
  exact ⟨a6, c6, by kernel_rfl, HO6.out, HR6.out, HK6.out⟩

theorem rbV_all (ys : List UInt8) (k : Nat) (h : ys.length = k) (hk : k ≤ 8) : rbV ys k = numF 0 ys ∧ rbOK k k = true := by
  have e : rbOK k k = true := by unfold rbOK; rw [decide_eq_true]; omega
  unfold rbV
  rw [h, e, if_pos rfl, Int.toNat_natCast, List.take_of_length_le (by omega)]
  exact ⟨rfl, rfl⟩

set_option maxHeartbeats 800000 in
theorem rbig_any (rb : Nat) (a : Option Addr) (m cap : Nat) (xs : List UInt8) (at_ k : Nat) (w : World) (hb : By w a m cap xs) (hr : Pr w rb a m cap at_) (hat : at_ + k ≤ m) (hl : m ≤ 1000000000) (hne : ∀ b, a.map (·.block) = some b → b ≠ rb) (hk8 : k ≤ 8) :
    Calls Try.prog 20 #[.pointer (some ⟨rb, 0, none⟩), .int .i64 (k : Int)] w fun e w' => e = .returned (.int .u64 (numF 0 ((xs.drop at_).take k))) ∧ Pr w' rb a m cap (at_ + k) ∧ Keeps (fun k => k = rb) w w' := by
  have HB := Lib.hid hb
  have HR := Lib.hid hr
  have HNE := Lib.hid hne
  clear hb hr hne
  go_enter Try.func20, Try.ntmps20
  go_wp2_with fail
  refine (take_any rb a m cap xs at_ k w HB.out HR.out hat hl HNE.out).mono ?_
  rintro e w1 ⟨a1, c1, rfl, ho1, hr1, hk1⟩
  have HO := Lib.hid ho1
  have HR1 := Lib.hid hr1
  have HK1 := Lib.hid hk1
  have hlen : ((xs.drop at_).take k).length = k := ho1.1.symm
  have HLEN := Lib.hid (rbV_all _ k hlen hk8)
  clear ho1 hr1 hk1 hlen
  generalize hys : (xs.drop at_).take k = ys at *
  have HYS := Lib.hid hys
  clear hys
  go_wp2_with fail
  refine (readbig_any a1 k c1 ys k w1 HO.out.by).mono ?_
  rintro e w2 ⟨rfl, rfl⟩
  rw [HLEN.out.1, HLEN.out.2]
  go_wp2_with fail
  go_returns
  exact ⟨by rw [HYS.out]; rfl, HR1.out, HK1.out⟩

set_option maxHeartbeats 1600000 in
theorem rid_any (rb : Nat) (a : Option Addr) (m cap : Nat) (xs : List UInt8) (at_ : Nat) (c : UInt8) (ys zs : List UInt8) (w : World) (hb : By w a m cap xs) (hr : Pr w rb a m cap at_) (hx : xs.drop at_ = c :: (ys ++ zs)) (hc : c.toNat = ys.length) (hy : ys.length ≤ 20) (hl : m ≤ 1000000000) (hne : ∀ b, a.map (·.block) = some b → b ≠ rb) :
    Calls Try.prog 21 #[.pointer (some ⟨rb, 0, none⟩)] w fun e w' => ∃ a1 c1, e = .returned (.slice a1 ys.length c1) ∧ Bo w.heap.size w' a1 ys.length c1 ys ∧ Pr w' rb a m cap (at_ + 1 + ys.length) ∧ Keeps (fun k => k = rb) w w' := by
  have hlen : m = xs.length := hb.1
  have hd : xs.length - at_ = 1 + (ys.length + zs.length) := by rw [← List.length_drop, hx]; simp; omega
  have h1 : (xs.drop at_).take 1 = [c] := by rw [hx]; simp
  have h2 : (xs.drop (at_ + 1)).take ys.length = ys := by rw [← List.drop_drop, hx]; simp
  have hsz := hr.lt
  obtain ⟨n, hn⟩ : ∃ n, ys.length = n := ⟨_, rfl⟩
  rw [hn] at hd hc hy h2 ⊢
  have H2 := Lib.hid h2
  have HN := Lib.hid hn
  have HX := Lib.hid hx
  have HB := Lib.hid hb
  have HR := Lib.hid hr
  have HNE := Lib.hid hne
  have a1 : at_ + 1 ≤ m := by omega
  have a2 : at_ + 1 + n ≤ m := by omega
  clear hb hr hne hx hd hn h2 hlen
  have hcI : (c.toNat : Int) = (n : Int) := by omega
  have H1 := Lib.hid h1
  have HCI := Lib.hid hcI
  clear h1 hcI hc
  go_enter Try.func21, Try.ntmps21
  go_wp2_with fail
  refine (take_any rb a m cap xs at_ 1 w HB.out HR.out a1 hl HNE.out).mono ?_
  rintro e w1 ⟨a1, c1, rfl, ho1, hr1, hk1⟩
  rw [H1.out] at ho1
  obtain ⟨g, rfl, hg0, hg1, hcell, hfree⟩ := ho1.row (by omega)
  have e0 : w1.cell? ⟨g, 0, none⟩ = some (.int .u8 (n : Int)) := by rw [hcell 0 (by simp), ← HCI.out]; rfl
  have HR1 := Lib.hid hr1
  have HK1 := Lib.hid hk1
  have HB1 := Lib.hid (HB.out.keep hk1 (fun b hb => HNE.out b hb))
  have hn0 : (n : Int) ≤ 20 := by omega
  clear ho1 hr1 hk1 hcell hfree
  go_wp2_with fail
  refine (must_ok w1).mono ?_
  rintro e w2 ⟨rfl, rfl⟩
  go_wp2_with fail
  refine (take_any rb a m cap xs (at_ + 1) n w1 HB1.out HR1.out a2 hl HNE.out).mono ?_
  rintro e w3 ⟨a3, c3, rfl, ho3, hr3, hk3⟩
  rw [H2.out] at ho3
  have HO3 := Lib.hid (ho3.mono HK1.out.size)
  have HR3 := Lib.hid hr3
  have HK3 := Lib.hid (HK1.out.trans hk3)
  clear ho3 hr3 hk3
  go_wp2_with fail
  go_returns
  exact ⟨a3, c3, rfl, HO3.out, HR3.out, HK3.out⟩

end Go.Proofs.Ytaokhgpidifedaa
