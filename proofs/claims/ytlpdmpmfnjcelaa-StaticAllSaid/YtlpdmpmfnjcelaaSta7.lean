/- An entry, as the reference tells it; the chapter's example: known. -/
import Derived.Test.YtlpdmpmfnjcelaaSta6
import Derived.Test.YtlpdmpmfnjcelaaSta3
namespace Go.Proofs.Ytlpdmpmfnjcelaa
open Go.RowKit Go.Deep

set_option maxHeartbeats 400000 in
theorem atr_any (a : Option Addr) (n cap : Nat) (l : List Fd) (i : Nat) (w : World) (hb : Fv w a n cap l) (hi : i ≤ 18446744073709551615) :
    Calls Try.prog 8 #[.slice a n cap, .int .u64 i] w fun e w' => e = .returned (.tuple #[FdV (atF l i).1, .bool (atF l i).2]) ∧ Below w.heap.size w w' := by
  have hcap := hb.2.le
  have hmax := hb.2.max
  unfold maxLen at hmax
  have HB := Lib.hid hb
  have HN := Lib.hid hb.1
  clear hb
  by_cases h : i < n
  · have hil : i < l.length := by have := HN.out; omega
    obtain ⟨b, o, rfl, hlt, hc⟩ := HB.out.get (by omega)
    have p1 : w.cell? ⟨b, o + i * 2, none⟩ = some (.string ⟨l[i].1.toArray⟩) := (hc i hil).1
    have p2 : w.cell? ⟨b, o + i * 2 + 1, none⟩ = some (.string ⟨l[i].2.toArray⟩) := (hc i hil).2
    have HE := Lib.hid (atF_some hil)
    clear hc
    go_enter Try.func8, Try.ntmps8
    go_wp2_with fail
    go_returns
    rw [HE.out]
    exact ⟨rfl, (Below.refl _ _).alloc (Nat.le_refl _) _⟩
  · have HE := Lib.hid (atF_none (l := l) (i := i) (by have := HN.out; omega))
    go_enter Try.func8, Try.ntmps8
    go_wp2_with fail
    go_returns
    rw [HE.out]
    exact ⟨rfl, (Below.refl _ _).alloc (Nat.le_refl _) _⟩

theorem Blk.put2 {w : World} {b : Nat} {u v : Value} {t : TypeId} (h : Blk w b #[u, v] t) (x y : Value) : Blk ((w.setCell ⟨b, 0, none⟩ x).setCell ⟨b, 1, none⟩ y) b #[x, y] t := ((h.set 0 x).set 1 y).as rfl
theorem Blk.far2 {w : World} {b c : Nat} {cs : Array Value} {t : TypeId} (h : Blk w c cs t) (hne : c ≠ b) (x y : Value) : Blk ((w.setCell ⟨b, 0, none⟩ x).setCell ⟨b, 1, none⟩ y) c cs t := (h.set_ne (a := ⟨b, 0, none⟩) hne x).set_ne (a := ⟨b, 1, none⟩) hne y
theorem Blk.two {w : World} {b : Nat} {u v : Value} {t : TypeId} (h : Blk w b #[u, v] t) : w.cell? ⟨b, 0, none⟩ = some u ∧ w.cell? ⟨b, 1, none⟩ = some v := ⟨by rw [h.cell]; rfl, by rw [h.cell]; rfl⟩

def kMethod : List UInt8 := [58, 109, 101, 116, 104, 111, 100]
def kPost : List UInt8 := [80, 79, 83, 84]
theorem kx1 : h2F 2 = ((kMethod, [71, 69, 84]), true) := by decide +kernel
theorem kx2 : (atF tab3 98).1.2 = [115, 97, 109, 101, 111, 114, 105, 103, 105, 110] ∧ (atF tab3 98).2 = true := by decide +kernel
theorem kx3 : h2F 0 = (([], []), false) := by decide +kernel
theorem kx4 : findH2 (kMethod, kPost) = (3, true, true) := by decide +kernel

set_option maxHeartbeats 1600000 in
theorem known_any (w : World) : Calls Try.prog 6 #[] w fun e w' => e = .returned (.bool true) ∧ Below w.heap.size w w' := by
  go_enter Try.func6, Try.ntmps6
  go_wp2_with fail
  refine (h2_any 2 w (by omega)).mono ?_
  rintro e w1 ⟨rfl, hk1⟩
  rw [kx1]
  have HK1 := Lib.hid hk1
  have HA1 := Lib.hid (Blk.new w1 #[.string ⟨kMethod.toArray⟩, .string ⟨([71, 69, 84] : List UInt8).toArray⟩] 26)
  clear hk1
  unfold FdV
  simp only
  go_wp2_with fail
  refine (h3_any 98 _ (by omega)).mono ?_
  rintro e w2 ⟨rfl, hk2⟩
  rw [kx2.2]
  generalize hf : (atF tab3 98).1 = f at *
  have HF : Hid (f.2 = [115, 97, 109, 101, 111, 114, 105, 103, 105, 110]) := by show _ = _; rw [← hf]; exact kx2.1
  clear hf
  obtain ⟨f1, f2⟩ := f
  have hs1 : (w1.alloc (.cells #[.string ⟨kMethod.toArray⟩, .string ⟨([71, 69, 84] : List UInt8).toArray⟩] 26 (0, 0))).heap.size = w1.heap.size + 1 := by simp
  have hs12 : w1.heap.size + 1 ≤ w2.heap.size := by have := hk2.size; rw [hs1] at this; exact this
  have HA2 := Lib.hid ((Below.keeps hk2).blk HA1.out (by rw [hs1]; omega))
  have HK2 := Lib.hid ((HK1.out.alloc HK1.out.size (.cells #[.string ⟨kMethod.toArray⟩, .string ⟨([71, 69, 84] : List UInt8).toArray⟩] 26 (0, 0))).trans (hk2.mono (by rw [hs1]; have := HK1.out.size; omega)))
  have HB2 := Lib.hid (Blk.new w2 #[.string ⟨f1.toArray⟩, .string ⟨f2.toArray⟩] 26)
  clear hk2 hs1
  unfold FdV
  simp only
  go_wp2_with fail
  refine (h2_any 0 _ (by omega)).mono ?_
  rintro e w3 ⟨rfl, hk3⟩
  rw [kx3]
  have hs2 : (w2.alloc (.cells #[.string ⟨f1.toArray⟩, .string ⟨f2.toArray⟩] 26 (0, 0))).heap.size = w2.heap.size + 1 := by simp
  have hs23 : w2.heap.size + 1 ≤ w3.heap.size := by have := hk3.size; rw [hs2] at this; exact this
  have HA3 := Lib.hid ((Below.keeps hk3).blk (HA2.out.alloc _) (by rw [hs2]; omega))
  have HB3 := Lib.hid ((Below.keeps hk3).blk HB2.out (by rw [hs2]; omega))
  have HK3 := Lib.hid ((HK2.out.alloc HK2.out.size (.cells #[.string ⟨f1.toArray⟩, .string ⟨f2.toArray⟩] 26 (0, 0))).trans (hk3.mono (by rw [hs2]; have := HK2.out.size; omega)))
  clear hk3 hs2
  unfold FdV
  simp only
  go_wp2_with fail
  refine (findh2_any (kMethod, kPost) _).mono ?_
  rintro e w4 ⟨rfl, hk4⟩
  rw [kx4]
  have hs3 : ∀ o, (w3.alloc o).heap.size = w3.heap.size + 1 := by simp
  have HA4 := (Below.keeps hk4).blk (HA3.out.alloc _) (by rw [hs3]; omega)
  have HB4 := (Below.keeps hk4).blk (HB3.out.alloc _) (by rw [hs3]; omega)
  have HK4 := Lib.hid ((HK3.out.alloc HK3.out.size _).trans (hk4.mono (by rw [hs3]; have := HK3.out.size; omega)))
  obtain ⟨a1, a2⟩ := HA4.two
  obtain ⟨b1, b2⟩ := HB4.two
  have hf2 : f2 = [115, 97, 109, 101, 111, 114, 105, 103, 105, 110] := HF.out
  subst hf2
  clear hk4 hs3 HA4 HB4
  go_wp2_with fail
  go_returns
  exact ⟨rfl, HK4.out⟩

end Go.Proofs.Ytlpdmpmfnjcelaa
