/- The chapter's example: known. -/
import Derived.Test.YtabdoikfcaiobaaParI
namespace Go.Proofs.Ytabdoikfcaiobaa
open Go.RowKit Go.Deep Go.Maps

theorem By.grow2 {w w' : World} {a : Option Addr} {n cap : Nat} {xs : List UInt8} (h : By w a n cap xs) (k : Below w.heap.size w w') (hl : ∀ b, a.map (·.block) = some b → b < w.heap.size) : By w' a n cap xs := h.keep (Below.keeps k) (fun b hb hS => by have := hl b hb; omega)

theorem Vw.new2 (w : World) (cs : List Value) (t : TypeId) (n : Nat) (hl : cs.length = n * 2) (h : n ≤ maxLen) : Vw (w.alloc (.cells cs.toArray t (0, 0))) (some ⟨w.heap.size, 0, none⟩) n n 2 cs := by
  refine ⟨Nat.le_refl _, h, hl, .inr ⟨w.heap.size, 0, rfl, by simp, fun j u hj => ?_⟩⟩
  have hb := Blk.new w cs.toArray t
  rw [Nat.zero_add, hb.cell j]
  simp [hj]
theorem Hv.new (w : World) (l : List Fr) (t : TypeId) (cs : Array Value) (hcs : cs = (Frs l).toArray) (h : l.length ≤ 1000) (hf : ∀ f ∈ l, 0 ≤ f.t ∧ f.t ≤ 18446744073709551615 ∧ By w f.a f.n f.cap f.xs ∧ ∀ b, f.a.map (·.block) = some b → b < w.heap.size) :
    ∀ w', Below (w.alloc (.cells cs t (0, 0))).heap.size (w.alloc (.cells cs t (0, 0))) w' → Hv w' (some ⟨w.heap.size, 0, none⟩) l.length l.length l := by
  intro w' hb
  subst hcs
  refine ⟨rfl, (Vw.new2 w (Frs l) t l.length (Frs_length l) (by unfold maxLen; omega)).below hb (fun b hb => by simp at hb; simp; omega), fun f hfl => ?_⟩
  obtain ⟨h0, h1, h2, h3⟩ := hf f hfl
  exact ⟨h0, h1, (h2.alloc _).below hb (fun b hb => by have := h3 b hb; simp; omega)⟩

theorem kp1 (a : Option Addr) (c : Nat) : paErr [⟨4, a, 2, c, [64, 100]⟩] = 0 := by kernel_rfl
theorem kp2 (a : Option Addr) (c : Nat) : paR [⟨4, a, 2, c, [64, 100]⟩] = [4, 2, 64, 100] := by kernel_rfl
theorem kp3 : rdR [4, 2, 64, 100] = some [(4, [64, 100])] := by decide +kernel
theorem kp4 : pnB [64, 100] = true ∧ pnV [64, 100] = 100 := by decide +kernel
theorem kp5 (f : Fr) (h1 : f.t = 4) (h2 : f.xs = [64, 100]) : intV [f] 4 = (100, true) ∧ checkI [f] true = 0 := by
  obtain ⟨t, a, n, c, xs⟩ := f
  simp only at h1 h2
  subst h1; subst h2
  constructor
  · unfold intV intO
    simp [kp4.1, kp4.2]
  · unfold checkI rightB
    simp [kp4.1]
theorem kp6 : checkI [⟨0, none, 0, 0, []⟩] false = 41 := by decide +kernel

set_option maxHeartbeats 1600000 in
theorem known_any (w : World) : Calls Try.prog 6 #[] w fun e w' => e = .returned (.bool true) ∧ Below w.heap.size w w' := by
  have hby := By.new w [64, 100] #[.int .u8 64, .int .u8 100] 5 (by simp) rfl
  have hfr := Hv.new (w.alloc (.cells #[.int .u8 64, .int .u8 100] 5 (0, 0))) [⟨4, some ⟨w.heap.size, 0, none⟩, 2, 2, [64, 100]⟩] 42 #[.int .u64 4, .slice (some ⟨w.heap.size, 0, none⟩) 2 2] rfl (by simp)
    (fun f hf => by
      simp only [List.mem_cons, List.not_mem_nil, or_false] at hf
      subst hf
      exact ⟨by show (0 : Int) ≤ 4; omega, by show (4 : Int) ≤ 18446744073709551615; omega, hby, fun b hb => by simp at hb; simp; omega⟩)
  have hk0 := ((Below.refl w.heap.size w).alloc (Nat.le_refl _) (.cells #[.int .u8 64, .int .u8 100] 5 (0, 0))).alloc (by simp) (.cells #[.int .u64 4, .slice (some ⟨w.heap.size, 0, none⟩) 2 2] 42 (0, 0))
  have HFR : Hid (∀ w', Below ((w.alloc (.cells #[.int .u8 64, .int .u8 100] 5 (0, 0))).alloc (.cells #[.int .u64 4, .slice (some ⟨w.heap.size, 0, none⟩) 2 2] 42 (0, 0))).heap.size ((w.alloc (.cells #[.int .u8 64, .int .u8 100] 5 (0, 0))).alloc (.cells #[.int .u64 4, .slice (some ⟨w.heap.size, 0, none⟩) 2 2] 42 (0, 0))) w' → Hv w' (some ⟨w.heap.size + 1, 0, none⟩) 1 1 [⟨4, some ⟨w.heap.size, 0, none⟩, 2, 2, [64, 100]⟩]) := Lib.hid (fun w' h => by
    have h2 := hfr w' h
    rw [World.size_alloc] at h2
    exact h2)
  have HK0 := Lib.hid hk0
  clear hby hfr hk0
  go_enter Try.func6, Try.ntmps6
  go_wp2_with fail
  refine (qwrite_any _ 1 1 [⟨4, some ⟨w.heap.size, 0, none⟩, 2, 2, [64, 100]⟩] _ HFR.out (fun f hf => by simp only [List.mem_cons, List.not_mem_nil, or_false] at hf; subst hf; show (2 : Nat) ≤ 1000000; omega)).mono ?_
  rintro e w1 ⟨a1, n1, c1, rfl, ho1, hk1⟩
  rw [kp1]
  rw [kp2] at ho1
  obtain rfl : n1 = 4 := ho1.1
  have HO1 := Lib.hid ho1
  have HB1 := Lib.hid hk1
  have HK1 := Lib.hid (HK0.out.trans (hk1.mono HK0.out.size))
  clear ho1 hk1
  go_wp2_with fail
  refine (qread_any a1 4 c1 [4, 2, 64, 100] w1 HO1.out.by (by omega) (fun b hb => (HO1.out.ge b hb).2)).mono ?_
  rintro e w2 ⟨hk2, h2⟩
  rw [kp3] at h2
  obtain ⟨a2, c2, l, rfl, hl, hp⟩ := h2
  have hlen : l.length = 1 := by rw [← prsL_length, hl]; rfl
  obtain ⟨f, rfl⟩ : ∃ f, l = [f] := by
    match l, hlen with
    | [f], _ => exact ⟨f, rfl⟩
  obtain ⟨hft, hfx⟩ : f.t = 4 ∧ f.xs = [64, 100] := by simpa [prsL] using hl
  have hkp := kp5 f hft hfx
  have HL := Lib.hid hl
  have HP := Lib.hid hp
  have HKP := Lib.hid hkp
  have HB2 := Lib.hid (HB1.out.trans (hk2.mono HB1.out.size))
  have HK2 := Lib.hid (HK1.out.trans (hk2.mono HK1.out.size))
  have HO2 := Lib.hid (HO1.out.by.grow2 hk2 (fun b hb => (HO1.out.ge b hb).2))
  have HS2 := Lib.hid hk2.size
  clear hk2 hl hp hkp hlen hft hfx
  simp only [List.length_cons, List.length_nil] at HP ⊢
  go_wp2_with fail
  refine (int_any a2 1 c2 [f] 4 w2 (fun w' h => (HP.out.below h).hv) (by omega)).mono ?_
  rintro e w3 ⟨rfl, hk3⟩
  rw [HKP.out.1]
  have HP3 := Lib.hid (HP.out.below hk3)
  have HB3 := Lib.hid (HB2.out.trans (hk3.mono HB2.out.size))
  have HK3 := Lib.hid (HK2.out.trans (hk3.mono HK2.out.size))
  have HO3 := Lib.hid (HO2.out.grow2 hk3 (fun b hb => by have := (HO1.out.ge b hb).2; have := HS2.out; omega))
  clear hk3
  dsimp only
  go_wp2_with fail
  refine HO3.out.upon ?_
  go_wp2_with fail
  refine (params_same _ _ 1 1 1 c2 [⟨4, some ⟨w.heap.size, 0, none⟩, 2, 2, [64, 100]⟩] [f] w3 (HFR.out w3 HB3.out) HP3.out.hv (by rw [HL.out]; rfl)).mono ?_
  rintro e w4 ⟨rfl, hk4⟩
  have HP4 := Lib.hid (HP3.out.below hk4)
  have HK4 := Lib.hid (HK3.out.trans (hk4.mono HK3.out.size))
  clear hk4
  go_wp2_with fail
  refine (check_any a2 1 c2 [f] true w4 (fun w' h => (HP4.out.below h).hv) (by omega)).mono ?_
  rintro e w5 ⟨rfl, hk5⟩
  rw [HKP.out.2]
  have HK5 := Lib.hid (HK4.out.trans (hk5.mono HK4.out.size))
  clear hk5
  have HZ := Lib.hid (Hv.new w5 [⟨0, none, 0, 0, []⟩] 42 #[.int .u64 0, .slice none 0 0] rfl (by simp) (fun f hf => by
    simp only [List.mem_cons, List.not_mem_nil, or_false] at hf
    subst hf
    exact ⟨by show (0 : Int) ≤ 0; omega, by show (0 : Int) ≤ 18446744073709551615; omega, By.nil _, fun b hb => by cases hb⟩))
  have HK6 := Lib.hid (HK5.out.alloc HK5.out.size (.cells #[.int .u64 0, .slice none 0 0] 42 (0, 0)))
  go_wp2_with fail
  refine (check_any _ 1 1 [⟨0, none, 0, 0, []⟩] false _ HZ.out (by omega)).mono ?_
  rintro e w7 ⟨rfl, hk7⟩
  rw [kp6]
  have HK7 := Lib.hid (HK6.out.trans (hk7.mono HK6.out.size))
  clear hk7
  go_wp2_with fail
  go_returns
  exact ⟨by simp, HK7.out⟩

end Go.Proofs.Ytabdoikfcaiobaa
