/- Var and Vars of the packages num and bifoldref1. -/
import Derived.Test.YtgfkgmmigbpciaaNumA
namespace Go.Proofs.Ytgfkgmmigbpciaa
set_option linter.unusedSimpArgs false
set_option linter.unusedVariables false
open Go.RowKit Go.Deep

theorem byt_congr {x y : Int} (h : x % 256 = y % 256) : byt x = byt y := by unfold byt; rw [h]

/-- A number as a varint. -/
def varE (v : Int) : List UInt8 :=
 if v < 64 then [byt v] else if v < 16384 then bigD (v + 16384) 2 else if v < 1073741824 then bigD (v + 2147483648) 4 else bigD (v + 13835058055282163712) 8

/-- Numbers. -/
def Us (vs : List Int) : List Value := vs.map (.int .u64)
def Uv (w : World) (a : Option Addr) (n cap : Nat) (vs : List Int) : Prop := n = vs.length ∧ Vw w a n cap 1 (Us vs) ∧ ∀ v ∈ vs, 0 ≤ v ∧ v ≤ 18446744073709551615

theorem Uv.get {w : World} {a : Option Addr} {n cap : Nat} {vs : List Int} (h : Uv w a n cap vs) (hn : 0 < n) :
  ∃ b off, a = some ⟨b, off, none⟩ ∧ b < w.heap.size ∧ ∀ i (hi : i < vs.length), w.cell? ⟨b, off + i, none⟩ = some (.int .u64 vs[i]) := by
 rcases h.2.1.at_ with h0 | ⟨b, off, ha, hb, hc⟩
 ·have : vs = [] := by simpa [Us] using h0
  have := h.1
  simp_all
 ·exact ⟨b, off, ha, hb, fun i hi => hc i _ (by simp [Us, hi])⟩
theorem Uv.keep {w w' : World} {S : Nat → Prop} {a : Option Addr} {n cap : Nat} {vs : List Int} (h : Uv w a n cap vs) (k : Keeps S w w') (hs : ∀ b, a.map (·.block) = some b → ¬ S b) : Uv w' a n cap vs := ⟨h.1, h.2.1.keep k hs, h.2.2⟩
theorem Uv.lt {w : World} {a : Option Addr} {n cap : Nat} {vs : List Int} (h : Uv w a n cap vs) (hn : 0 < n) : ∀ b, a.map (·.block) = some b → b < w.heap.size := by
 obtain ⟨b, off, rfl, hb, _⟩ := h.get hn
 intro c hc
 cases hc
 exact hb

def varsOK (vs : List Int) : Bool := vs.all fun v => decide (v ≤ 4611686018427387903)
def varsE (vs : List Int) : List UInt8 := vs.flatMap varE
def varsR (xs : List UInt8) (vs : List Int) : List UInt8 := if varsOK vs then xs ++ varsE vs else []
def varsErr (vs : List Int) : Int := if varsOK vs then 0 else 21

set_option maxHeartbeats 400000 in
theorem varlenr_any (v : Int) (w : World) (h0 : 0 ≤ v) :
  Calls Try.prog 31 #[.int .u64 v] w fun e w' => e = .returned (.int .i64 (varLenV v)) ∧ w = w' := by
 by_cases h1 : v < 64
 ·have HE : Hid (varLenV v = 1) := by show _ = _; unfold varLenV; rw [if_pos h1]
  go_enter Try.func31, Try.ntmps31
  go_wp2_with fail
  go_returns
  exact ⟨by rw [HE.out]; rfl, rfl⟩
 ·by_cases h2 : v < 16384
  ·have HE : Hid (varLenV v = 2) := by show _ = _; unfold varLenV; rw [if_neg h1, if_pos h2]
   go_enter Try.func31, Try.ntmps31
   go_wp2_with fail
   go_returns
   exact ⟨by rw [HE.out]; rfl, rfl⟩
  ·by_cases h3 : v < 1073741824
   ·have HE : Hid (varLenV v = 4) := by show _ = _; unfold varLenV; rw [if_neg h1, if_neg h2, if_pos h3]
    go_enter Try.func31, Try.ntmps31
    go_wp2_with fail
    go_returns
    exact ⟨by rw [HE.out]; rfl, rfl⟩
   ·by_cases h4 : v ≤ 4611686018427387903
    ·have HE : Hid (varLenV v = 8) := by show _ = _; unfold varLenV; rw [if_neg h1, if_neg h2, if_neg h3, if_pos h4]
     go_enter Try.func31, Try.ntmps31
     go_wp2_with fail
     go_returns
     exact ⟨by rw [HE.out]; rfl, rfl⟩
    ·have HE : Hid (varLenV v = 0) := by show _ = _; unfold varLenV; rw [if_neg h1, if_neg h2, if_neg h3, if_neg h4]
     go_enter Try.func31, Try.ntmps31
     go_wp2_with fail
     go_returns
     exact ⟨by rw [HE.out]; rfl, rfl⟩

theorem or8_comm (a b : Int) : bits .or .u8 a b = bits .or .u8 b a := by simp only [bits, BitVec.or_comm]
theorem or64_comm (a b : Int) : bits .or .u64 a b = bits .or .u64 b a := by simp only [bits, BitVec.or_comm]
theorem bigD_1 (v : Int) : bigD v 1 = [byt v] := by simp [bigD]
theorem bigD_2 (v : Int) : bigD v 2 = [byt (v / 256), byt v] := by simp [bigD]
theorem bigD_4 (v : Int) : bigD v 4 = [byt (v / 16777216), byt (v / 65536), byt (v / 256), byt v] := by simp [bigD]
theorem bigD_8 (v : Int) : bigD v 8 = [byt (v / 72057594037927936), byt (v / 281474976710656), byt (v / 1099511627776), byt (v / 4294967296), byt (v / 16777216), byt (v / 65536), byt (v / 256), byt v] := by simp [bigD]

theorem varLenV_cases (v : Int) : (v < 64 ∧ varLenV v = 1) ∨ (64 ≤ v ∧ v < 16384 ∧ varLenV v = 2) ∨ (16384 ≤ v ∧ v < 1073741824 ∧ varLenV v = 4) ∨ (1073741824 ≤ v ∧ v ≤ 4611686018427387903 ∧ varLenV v = 8) ∨ (4611686018427387903 < v ∧ varLenV v = 0) := by
 by_cases h1 : v < 64
 ·exact .inl ⟨h1, by unfold varLenV; rw [if_pos h1]⟩
 ·by_cases h2 : v < 16384
  ·exact .inr (.inl ⟨by omega, h2, by unfold varLenV; rw [if_neg h1, if_pos h2]⟩)
  ·by_cases h3 : v < 1073741824
   ·exact .inr (.inr (.inl ⟨by omega, h3, by unfold varLenV; rw [if_neg h1, if_neg h2, if_pos h3]⟩))
   ·by_cases h4 : v ≤ 4611686018427387903
    ·exact .inr (.inr (.inr (.inl ⟨by omega, h4, by unfold varLenV; rw [if_neg h1, if_neg h2, if_neg h3, if_pos h4]⟩)))
    ·exact .inr (.inr (.inr (.inr ⟨by omega, by unfold varLenV; rw [if_neg h1, if_neg h2, if_neg h3, if_neg h4]⟩)))

/-- The first byte of a varint, from the number's first and the size. -/
theorem varE_1 (v : Int) (h1 : v < 64) : varE v = [byt v] := by unfold varE; rw [if_pos h1]
theorem varE_2 (v : Int) (h0 : 64 ≤ v) (h1 : v < 16384) : varE v = [byt (v / 256 + 64), byt v] := by
 unfold varE; rw [if_neg (by omega), if_pos h1, bigD_2, byt_congr (x := (v + 16384) / 256) (y := v / 256 + 64) (by omega), byt_congr (x := v + 16384) (y := v) (by omega)]
theorem varE_4 (v : Int) (h0 : 16384 ≤ v) (h1 : v < 1073741824) : varE v = [byt (v / 16777216 + 128), byt (v / 65536), byt (v / 256), byt v] := by
 unfold varE; rw [if_neg (by omega), if_neg (by omega), if_pos h1, bigD_4, byt_congr (x := (v + 2147483648) / 16777216) (y := v / 16777216 + 128) (by omega), byt_congr (x := (v + 2147483648) / 65536) (y := v / 65536) (by omega), byt_congr (x := (v + 2147483648) / 256) (y := v / 256) (by omega), byt_congr (x := v + 2147483648) (y := v) (by omega)]
theorem varE_8 (v : Int) (h0 : 1073741824 ≤ v) : varE v = [byt (v / 72057594037927936 + 192), byt (v / 281474976710656), byt (v / 1099511627776), byt (v / 4294967296), byt (v / 16777216), byt (v / 65536), byt (v / 256), byt v] := by
 unfold varE
 rw [if_neg (by omega), if_neg (by omega), if_neg (by omega), bigD_8, byt_congr (x := (v + 13835058055282163712) / 72057594037927936) (y := v / 72057594037927936 + 192) (by omega), byt_congr (x := (v + 13835058055282163712) / 281474976710656) (y := v / 281474976710656) (by omega), byt_congr (x := (v + 13835058055282163712) / 1099511627776) (y := v / 1099511627776) (by omega), byt_congr (x := (v + 13835058055282163712) / 4294967296) (y := v / 4294967296) (by omega), byt_congr (x := (v + 13835058055282163712) / 16777216) (y := v / 16777216) (by omega), byt_congr (x := (v + 13835058055282163712) / 65536) (y := v / 65536) (by omega), byt_congr (x := (v + 13835058055282163712) / 256) (y := v / 256) (by omega), byt_congr (x := v + 13835058055282163712) (y := v) (by omega)]

/-- The size's bits set on the first byte. -/
theorem first_or (x s : Int) (hx : x % 256 < 64) (hs : s = 0 ∨ s = 64 ∨ s = 128 ∨ s = 192) : bits .or .u8 ((byt x).toNat : Int) s = ((byt (x + s)).toNat : Int) := by
 have h0 : 0 ≤ x % 256 := Int.emod_nonneg _ (by omega)
 rw [byt_val, byt_val, or8_comm, or8 6 (by omega) (by omega) (by omega) h0 (by omega) (by omega)]
 omega

theorem varsOK_step {vs : List Int} {i : Nat} (hi : i < vs.length) (h : varsOK (vs.take i) = true) (hv : vs[i] ≤ 4611686018427387903) : varsOK (vs.take (i + 1)) = true := by
 unfold varsOK at *
 rw [List.take_succ_eq_append_getElem hi, List.all_append, h]
 simpa using hv
theorem varsE_step {vs : List Int} {i : Nat} (hi : i < vs.length) (xs : List UInt8) : xs ++ varsE (vs.take (i + 1)) = (xs ++ varsE (vs.take i)) ++ varE vs[i] := by
 unfold varsE
 rw [List.take_succ_eq_append_getElem hi, List.flatMap_append]
 simp
theorem varsOK_not {vs : List Int} {i : Nat} (hi : i < vs.length) (hv : 4611686018427387903 < vs[i]) : varsOK vs = false := by
 cases h : varsOK vs with
 | false => rfl
 | true =>
  unfold varsOK at h
  have := List.all_eq_true.1 h vs[i] (List.getElem_mem hi)
  simp at this
  omega

/-- A round of Var. -/
theorem var_step {B0 base : Nat} {w0 w1 w3 : World} {g m n c3 : Nat} {zs cs : List UInt8} {c c' : UInt8} {x : Int} (ho : Bo base w3 (some ⟨g, 0, none⟩) m c3 (zs ++ c :: cs)) (hB : B0 ≤ base) (h0 : Below B0 w0 w1) (hk : Below base w1 w3) (hg : base ≤ g) (hx : x = (c'.toNat : Int)) (hn : n = zs.length) :
  Bo B0 (w3.setCell ⟨g, n, none⟩ (Value.int .u8 x)) (some ⟨g, 0, none⟩) m c3 (zs ++ c' :: cs) ∧ Below B0 w0 (w3.setCell ⟨g, n, none⟩ (Value.int .u8 x)) := by
 subst hx hn
 have hm := ho.1
 have := ho.set zs.length (by simp at hm; omega) c'
 refine ⟨?_, (h0.trans (hk.mono hB)).setCell (by show B0 ≤ g; omega) _⟩
 have e : (zs ++ c :: cs).set zs.length c' = zs ++ c' :: cs := by rw [List.set_append_right _ _ (Nat.le_refl _)]; simp
 rw [e] at this
 exact this.mono hB

set_option maxHeartbeats 800000 in
theorem var_any (a : Option Addr) (m cap : Nat) (xs : List UInt8) (a2 : Option Addr) (m2 cap2 : Nat) (vs : List Int) (w : World) (hb : By w a m cap xs) (hv : Uv w a2 m2 cap2 vs) (hl : m ≤ 1000000000) (hl2 : m2 ≤ 1000000000) :
  Calls Try.prog 56 #[.slice a m cap, .slice a2 m2 cap2] w fun e w' => ∃ a' n' cap', e = .returned (.tuple #[.slice a' n' cap', .int .i64 (varsErr vs)]) ∧ Bo w.heap.size w' a' n' cap' (varsR xs vs) ∧ Below w.heap.size w w' := by
 have hcap := hv.2.1.le
 have hmax := hv.2.1.max
 unfold maxLen at hmax
 have HB := Lib.hid hb
 have HV := Lib.hid hv
 have HM := Lib.hid hv.1
 clear hb hv
 go_enter Try.func56, Try.ntmps56
 go_wp2_with (at_builtin; refine halt ?_)
 refine Halted.go (wpList_copy8 w rfl _ rfl a m cap xs rfl HB.out (by omega) ?_)
 intro a1 c1 w1 ho1 hk1
 have HO1 := Lib.hid ho1
 have HK1 := Lib.hid hk1
 clear ho1 hk1
 go_wp2_with fail
 go_loopg [6, 17] m2 (fun k vo vi wr => ∃ (i : Nat) (a' : Option Addr) (cap' : Nat) (zs : List UInt8), k + i = m2 ∧ vi = .int .i64 i ∧ vo = .slice a' zs.length cap' ∧ varsOK (vs.take i) = true ∧ zs = xs ++ varsE (vs.take i) ∧ zs.length ≤ m + 8 * i ∧ Bo w.heap.size wr a' zs.length cap' zs ∧ Below w.heap.size w wr)
 case atStart => exact ⟨0, a1, c1, xs, by omega, rfl, by rw [← HB.out.1], rfl, by simp [varsE], by have := HB.out.1; omega, by rw [← HB.out.1]; exact HO1.out, HK1.out⟩
 case round =>
  obtain ⟨i, a2', c2', zs, hi, rfl, rfl, hok, hz, hlen, ho, hk⟩ := hrel
  have HOK := Lib.hid hok
  have HZ := Lib.hid hz
  have HO := Lib.hid ho
  have HK := Lib.hid hk
  have HI := Lib.hid hi
  clear hok hz ho hk hi
  by_cases hik : i < m2
  ·have hix : i < vs.length := by have := HM.out; omega
   have hvlt := HV.out.lt (by omega)
   have hvr : Uv wr a2 m2 cap2 vs := HV.out.keep (Below.keeps HK.out) (fun b hb => by have := hvlt b hb; omega)
   have hv0 := (hvr.2.2 vs[i] (List.getElem_mem hix)).1
   have hv1 := (hvr.2.2 vs[i] (List.getElem_mem hix)).2
   obtain ⟨b2, off2, rfl, hblt, hcell⟩ := hvr.get (by omega)
   have hc := hcell i hix
   have hsz : w.heap.size ≤ wr.heap.size := HK.out.size
   clear hcell hvr hvlt
   go_wp2_with fail
   refine (varlen_any _ _ hv0).mono ?_
   rintro e w' ⟨rfl, rfl⟩
   rcases varLenV_cases vs[i] with ⟨r1, hn⟩ | ⟨r0, r1, hn⟩ | ⟨r0, r1, hn⟩ | ⟨r0, r1, hn⟩ | ⟨r0, hn⟩
   ·rw [hn]
    go_wp2_with fail
    refine (big_any a2' zs.length c2' zs vs[i] 1 wr HO.out.by (by omega) hv0 hv1).mono ?_
    rintro e w3 ⟨a3, c3, rfl, ho3, hk3⟩
    rw [show cnt 1 = 1 from rfl] at ho3 ⊢
    obtain ⟨g, rfl, hg1, hg2, hg3, hg4⟩ := ho3.row (by omega)
    have hgc := hg3 zs.length (by simp [bigD_length])
    have hgf := hg4 zs.length
    rw [show (zs ++ bigD vs[i] 1)[zs.length]'(by simp [bigD_length]) = byt (vs[i] / 1) by simp [bigD_1]] at hgc
    have hor := first_or (vs[i] / 1) 0 (by omega) (by omega)
    clear hg3 hg4
    have HO3 := Lib.hid ho3
    have HK3 := Lib.hid hk3
    have HOR := Lib.hid hor
    clear ho3 hk3 hor
    go_wp2_with fail
    obtain ⟨k', rfl⟩ : ∃ k', gk = k' + 1 := ⟨gk - 1, by have := HI.out; omega⟩
    go_rounds 4
    go_roundg k'
    case measure => omega
    case rel =>
     simp only [Int.ediv_one, Int.add_zero] at HOR
     have hst := var_step (B0 := w.heap.size) (by have := HO3.out; rw [bigD_1] at this; exact this) hsz HK.out HK3.out hg1 HOR.out rfl
     refine ⟨i + 1, some ⟨g, 0, none⟩, c3, zs ++ varE vs[i], by have := HI.out; omega, by go_num, by simp [varE_1 vs[i] r1], varsOK_step hix HOK.out (by omega), by rw [varsE_step hix, ← HZ.out], by simp [varE_1 vs[i] r1]; omega, ?_, hst.2⟩
     have h1 := hst.1
     have e : zs.length + 1 = (zs ++ varE vs[i]).length := by simp [varE_1 vs[i] r1]
     rw [← e, varE_1 vs[i] r1]
     exact h1
   ·rw [hn]
    go_wp2_with fail
    refine (big_any a2' zs.length c2' zs vs[i] 2 wr HO.out.by (by omega) hv0 hv1).mono ?_
    rintro e w3 ⟨a3, c3, rfl, ho3, hk3⟩
    rw [show cnt 2 = 2 from rfl] at ho3 ⊢
    obtain ⟨g, rfl, hg1, hg2, hg3, hg4⟩ := ho3.row (by omega)
    have hgc := hg3 zs.length (by simp [bigD_length])
    have hgf := hg4 zs.length
    rw [show (zs ++ bigD vs[i] 2)[zs.length]'(by simp [bigD_length]) = byt (vs[i] / 256) by simp [bigD_2]] at hgc
    have hor := first_or (vs[i] / 256) 64 (by omega) (by omega)
    clear hg3 hg4
    have HO3 := Lib.hid ho3
    have HK3 := Lib.hid hk3
    have HOR := Lib.hid hor
    clear ho3 hk3 hor
    go_wp2_with fail
    obtain ⟨k', rfl⟩ : ∃ k', gk = k' + 1 := ⟨gk - 1, by have := HI.out; omega⟩
    go_rounds 4
    go_roundg k'
    case measure => omega
    case rel =>
     have hst := var_step (B0 := w.heap.size) (by have := HO3.out; rw [bigD_2] at this; exact this) hsz HK.out HK3.out hg1 HOR.out rfl
     refine ⟨i + 1, some ⟨g, 0, none⟩, c3, zs ++ varE vs[i], by have := HI.out; omega, by go_num, by simp [varE_2 vs[i] r0 r1], varsOK_step hix HOK.out (by omega), by rw [varsE_step hix, ← HZ.out], by simp [varE_2 vs[i] r0 r1]; omega, ?_, hst.2⟩
     have h1 := hst.1
     have e : zs.length + 2 = (zs ++ varE vs[i]).length := by simp [varE_2 vs[i] r0 r1]
     rw [← e, varE_2 vs[i] r0 r1]
     exact h1
   ·rw [hn]
    go_wp2_with fail
    refine (big_any a2' zs.length c2' zs vs[i] 4 wr HO.out.by (by omega) hv0 hv1).mono ?_
    rintro e w3 ⟨a3, c3, rfl, ho3, hk3⟩
    rw [show cnt 4 = 4 from rfl] at ho3 ⊢
    obtain ⟨g, rfl, hg1, hg2, hg3, hg4⟩ := ho3.row (by omega)
    have hgc := hg3 zs.length (by simp [bigD_length])
    have hgf := hg4 zs.length
    rw [show (zs ++ bigD vs[i] 4)[zs.length]'(by simp [bigD_length]) = byt (vs[i] / 16777216) by simp [bigD_4]] at hgc
    have hor := first_or (vs[i] / 16777216) 128 (by omega) (by omega)
    clear hg3 hg4
    have HO3 := Lib.hid ho3
    have HK3 := Lib.hid hk3
    have HOR := Lib.hid hor
    clear ho3 hk3 hor
    go_wp2_with fail
    obtain ⟨k', rfl⟩ : ∃ k', gk = k' + 1 := ⟨gk - 1, by have := HI.out; omega⟩
    go_rounds 4
    go_roundg k'
    case measure => omega
    case rel =>
     have hst := var_step (B0 := w.heap.size) (by have := HO3.out; rw [bigD_4] at this; exact this) hsz HK.out HK3.out hg1 HOR.out rfl
     refine ⟨i + 1, some ⟨g, 0, none⟩, c3, zs ++ varE vs[i], by have := HI.out; omega, by go_num, by simp [varE_4 vs[i] r0 r1], varsOK_step hix HOK.out (by omega), by rw [varsE_step hix, ← HZ.out], by simp [varE_4 vs[i] r0 r1]; omega, ?_, hst.2⟩
     have h1 := hst.1
     have e : zs.length + 4 = (zs ++ varE vs[i]).length := by simp [varE_4 vs[i] r0 r1]
     rw [← e, varE_4 vs[i] r0 r1]
     exact h1
   ·rw [hn]
    go_wp2_with fail
    refine (big_any a2' zs.length c2' zs vs[i] 8 wr HO.out.by (by omega) hv0 hv1).mono ?_
    rintro e w3 ⟨a3, c3, rfl, ho3, hk3⟩
    rw [show cnt 8 = 8 from rfl] at ho3 ⊢
    obtain ⟨g, rfl, hg1, hg2, hg3, hg4⟩ := ho3.row (by omega)
    have hgc := hg3 zs.length (by simp [bigD_length])
    have hgf := hg4 zs.length
    rw [show (zs ++ bigD vs[i] 8)[zs.length]'(by simp [bigD_length]) = byt (vs[i] / 72057594037927936) by simp [bigD_8]] at hgc
    have hor := first_or (vs[i] / 72057594037927936) 192 (by omega) (by omega)
    clear hg3 hg4
    have HO3 := Lib.hid ho3
    have HK3 := Lib.hid hk3
    have HOR := Lib.hid hor
    clear ho3 hk3 hor
    go_wp2_with fail
    obtain ⟨k', rfl⟩ : ∃ k', gk = k' + 1 := ⟨gk - 1, by have := HI.out; omega⟩
    go_rounds 4
    go_roundg k'
    case measure => omega
    case rel =>
     have hst := var_step (B0 := w.heap.size) (by have := HO3.out; rw [bigD_8] at this; exact this) hsz HK.out HK3.out hg1 HOR.out rfl
     refine ⟨i + 1, some ⟨g, 0, none⟩, c3, zs ++ varE vs[i], by have := HI.out; omega, by go_num, by simp [varE_8 vs[i] r0], varsOK_step hix HOK.out (by omega), by rw [varsE_step hix, ← HZ.out], by simp [varE_8 vs[i] r0]; omega, ?_, hst.2⟩
     have h1 := hst.1
     have e : zs.length + 8 = (zs ++ varE vs[i]).length := by simp [varE_8 vs[i] r0]
     rw [← e, varE_8 vs[i] r0]
     exact h1
   ·rw [hn]
    have HF := Lib.hid (varsOK_not hix (by omega))
    go_wp2_with fail
    go_returns
    refine ⟨none, 0, 0, by unfold varsErr; rw [HF.out]; rfl, ?_, HK.out⟩
    unfold varsR
    rw [HF.out]
    exact Bo.nil _ _
  ·have hik2 : i = m2 := by have := HI.out; omega
   have HF : Hid (varsOK vs = true) := by
    have := HOK.out
    rw [hik2, HM.out, List.take_length] at this
    exact this
   have HF2 : Hid (zs = xs ++ varsE vs) := by
    have := HZ.out
    rw [hik2, HM.out, List.take_length] at this
    exact this
   clear hik2
   go_wp2_with fail
   go_returns
   refine ⟨a2', zs.length, c2', by unfold varsErr; rw [HF.out]; rfl, ?_, HK.out⟩
   unfold varsR
   rw [HF.out, if_pos rfl, ← HF2.out]
   exact HO.out

theorem Near.none (base : Nat) (w : World) (a : Option Addr) : Near base w a none := fun k h => by cases h

set_option maxHeartbeats 400000 in
theorem varr_any (base : Nat) (a : Option Addr) (m cap : Nat) (xs : List UInt8) (v : Int) (w : World) (hd : Bd base w a m cap xs) (hbase : base ≤ w.heap.size) (hl : m ≤ 10000000000) (hv0 : 0 ≤ v) (hv1 : v ≤ 18446744073709551615) :
  Calls Try.prog 35 #[.slice a m cap, .int .u64 v] w fun e w' => ∃ a' n' cap', e = .returned (.tuple #[.slice a' n' cap', .int .i64 (varsErr [v])]) ∧ Bd base w' a' n' cap' (varsR xs [v]) ∧
   Keeps (mine base a) w w' ∧ Near base w a a' := by
 have HD := Lib.hid hd
 clear hd
 have hok : v ≤ 4611686018427387903 → varsErr [v] = 0 ∧ varsR xs [v] = xs ++ varE v := by
  intro h
  have : varsOK [v] = true := by simp [varsOK, h]
  unfold varsErr varsR
  rw [this, if_pos rfl, if_pos rfl]
  simp [varsE]
 rcases varLenV_cases v with ⟨r1, hn⟩ | ⟨r0, r1, hn⟩ | ⟨r0, r1, hn⟩ | ⟨r0, r1, hn⟩ | ⟨r0, hn⟩
 ·obtain ⟨e1, e2⟩ := hok (by omega)
  have H1 := Lib.hid e1
  have H2 := Lib.hid e2
  clear e1 e2 hok
  go_enter Try.func35, Try.ntmps35
  go_wp2_with fail
  refine (varlenr_any v w hv0).mono ?_
  rintro e w' ⟨rfl, rfl⟩
  rw [hn]
  go_wp2_with (at_builtin; refine halt ?_)
  refine Halted.go (wpList_push8 w rfl _ _ (byt v) _ (by rw [← B_byt, Int.emod_eq_of_lt hv0 (by omega)]) rfl base a _ cap xs rfl HD.out rfl (by omega) hbase ?_)
  intro a3 c3 w3 ho3 hk3 hf3
  go_wp2_with fail
  go_returns
  refine ⟨a3, m + 1, c3, by rw [H1.out]; rfl, ?_, hk3, hf3⟩
  rw [H2.out, varE_1 v r1]
  exact ho3.bd
 ·obtain ⟨e1, e2⟩ := hok (by omega)
  have H1 := Lib.hid e1
  have H2 := Lib.hid e2
  clear e1 e2 hok
  have hor : bits .or .u64 v 16384 = v + 16384 := by rw [or64_comm, or64 14 (by omega) (by omega) (by omega) hv0 (by omega) (by omega)]; omega
  have HOR := Lib.hid hor
  clear hor
  go_enter Try.func35, Try.ntmps35
  go_wp2_with fail
  refine (varlenr_any v w hv0).mono ?_
  rintro e w' ⟨rfl, rfl⟩
  rw [hn]
  go_wp2_with fail
  rw [HOR.out]
  refine (bigr_any base a m cap xs (v + 16384) 2 w HD.out hbase (by omega) (by omega) (by omega)).mono ?_
  rintro e w3 ⟨a3, c3, rfl, ho3, hk3, hf3⟩
  go_wp2_with fail
  go_returns
  refine ⟨a3, m + 2, c3, by rw [H1.out]; rfl, ?_, hk3, hf3⟩
  rw [H2.out, show varE v = bigD (v + 16384) 2 by unfold varE; rw [if_neg (by omega), if_pos r1]]
  exact ho3
 ·obtain ⟨e1, e2⟩ := hok (by omega)
  have H1 := Lib.hid e1
  have H2 := Lib.hid e2
  clear e1 e2 hok
  have hor : bits .or .u64 v 2147483648 = v + 2147483648 := by rw [or64_comm, or64 30 (by omega) (by omega) (by omega) hv0 (by omega) (by omega)]; omega
  have HOR := Lib.hid hor
  clear hor
  go_enter Try.func35, Try.ntmps35
  go_wp2_with fail
  refine (varlenr_any v w hv0).mono ?_
  rintro e w' ⟨rfl, rfl⟩
  rw [hn]
  go_wp2_with fail
  rw [HOR.out]
  refine (bigr_any base a m cap xs (v + 2147483648) 4 w HD.out hbase (by omega) (by omega) (by omega)).mono ?_
  rintro e w3 ⟨a3, c3, rfl, ho3, hk3, hf3⟩
  go_wp2_with fail
  go_returns
  refine ⟨a3, m + 4, c3, by rw [H1.out]; rfl, ?_, hk3, hf3⟩
  rw [H2.out, show varE v = bigD (v + 2147483648) 4 by unfold varE; rw [if_neg (by omega), if_neg (by omega), if_pos r1]]
  exact ho3
 ·obtain ⟨e1, e2⟩ := hok (by omega)
  have H1 := Lib.hid e1
  have H2 := Lib.hid e2
  clear e1 e2 hok
  have hor : bits .or .u64 v 13835058055282163712 = v + 13835058055282163712 := by rw [or64_comm, or64 62 (by omega) (by omega) (by omega) hv0 (by omega) (by omega)]; omega
  have HOR := Lib.hid hor
  clear hor
  go_enter Try.func35, Try.ntmps35
  go_wp2_with fail
  refine (varlenr_any v w hv0).mono ?_
  rintro e w' ⟨rfl, rfl⟩
  rw [hn]
  go_wp2_with fail
  rw [HOR.out]
  refine (bigr_any base a m cap xs (v + 13835058055282163712) 8 w HD.out hbase (by omega) (by omega) (by omega)).mono ?_
  rintro e w3 ⟨a3, c3, rfl, ho3, hk3, hf3⟩
  go_wp2_with fail
  go_returns
  refine ⟨a3, m + 8, c3, by rw [H1.out]; rfl, ?_, hk3, hf3⟩
  rw [H2.out, show varE v = bigD (v + 13835058055282163712) 8 by unfold varE; rw [if_neg (by omega), if_neg (by omega), if_neg (by omega)]]
  exact ho3
 ·have hno : varsErr [v] = 21 ∧ varsR xs [v] = [] := by
   have : varsOK [v] = false := by simp [varsOK]; omega
   unfold varsErr varsR
   rw [this]
   exact ⟨rfl, rfl⟩
  have H1 := Lib.hid hno.1
  have H2 := Lib.hid hno.2
  clear hno hok
  go_enter Try.func35, Try.ntmps35
  go_wp2_with fail
  refine (varlenr_any v w hv0).mono ?_
  rintro e w' ⟨rfl, rfl⟩
  rw [hn]
  go_wp2_with fail
  go_returns
  refine ⟨none, 0, 0, by rw [H1.out]; rfl, ?_, Keeps.refl _ _, Near.none _ _ _⟩
  rw [H2.out]
  exact (Bo.nil _ _).bd

theorem varsOK_cons (v : Int) (vs : List Int) : varsOK (v :: vs) = (varsOK [v] && varsOK vs) := by simp [varsOK]

set_option maxHeartbeats 800000 in
theorem varsr_any (base : Nat) (a : Option Addr) (m cap : Nat) (xs : List UInt8) (a2 : Option Addr) (m2 cap2 : Nat) (vs : List Int) (w : World) (hd : Bd base w a m cap xs) (hv : Uv w a2 m2 cap2 vs) (hbase : base ≤ w.heap.size) (hfar : 0 < m2 → ∀ b, a2.map (·.block) = some b → ¬ mine base a b) (hl : m ≤ 1000000000) (hl2 : m2 ≤ 1000000000) :
  Calls Try.prog 21 #[.slice a m cap, .slice a2 m2 cap2] w fun e w' => ∃ a' n' cap', e = .returned (.tuple #[.slice a' n' cap', .int .i64 (varsErr vs)]) ∧ Bd base w' a' n' cap' (varsR xs vs) ∧
   Keeps (mine base a) w w' ∧ Near base w a a' := by
 have hcap := hv.2.1.le
 have hmax := hv.2.1.max
 unfold maxLen at hmax
 have HD := Lib.hid hd
 have HV := Lib.hid hv
 have HM := Lib.hid hv.1
 clear hd hv
 go_enter Try.func21, Try.ntmps21
 go_wp2_with fail
 go_loopg [0, 6] m2 (fun k vo vi wr => ∃ (i : Nat) (a' : Option Addr) (cap' : Nat) (zs : List UInt8), k + i = m2 ∧ vi = .int .i64 i ∧ vo = .slice a' zs.length cap' ∧ varsOK (vs.take i) = true ∧ zs = xs ++ varsE (vs.take i) ∧ zs.length ≤ m + 8 * i ∧ Bd base wr a' zs.length cap' zs ∧ Keeps (mine base a) w wr ∧ Near base w a a')
 case atStart => exact ⟨0, a, cap, xs, by omega, rfl, by rw [← HD.out.1], rfl, by simp [varsE], by have := HD.out.1; omega, by rw [← HD.out.1]; exact HD.out, Keeps.refl _ _, Near.refl _ _ _⟩
 case round =>
  obtain ⟨i, a2', c2', zs, hi, rfl, rfl, hok, hz, hlen, ho, hk, hf⟩ := hrel
  have HOK := Lib.hid hok
  have HZ := Lib.hid hz
  have HO := Lib.hid ho
  have HK := Lib.hid hk
  have HF := Lib.hid hf
  have HI := Lib.hid hi
  clear hok hz ho hk hi hf
  by_cases hik : i < m2
  ·have hix : i < vs.length := by have := HM.out; omega
   have hvr : Uv wr a2 m2 cap2 vs := HV.out.keep HK.out (hfar (by omega))
   have hv0 := (hvr.2.2 vs[i] (List.getElem_mem hix)).1
   have hv1 := (hvr.2.2 vs[i] (List.getElem_mem hix)).2
   obtain ⟨b2, off2, rfl, hblt, hcell⟩ := hvr.get (by omega)
   have hc := hcell i hix
   have hsz : base ≤ wr.heap.size := by have := HK.out.size; omega
   clear hcell hvr
   go_wp2_with fail
   refine (varr_any base a2' zs.length c2' zs vs[i] wr HO.out hsz (by omega) hv0 hv1).mono ?_
   rintro e w3 ⟨a3, n3, c3, rfl, ho3, hk3, hf3⟩
   have HK3 := Lib.hid (Keeps.step HK.out HF.out hk3)
   have HF3 := Lib.hid (Near.step HF.out HK.out hf3)
   have HO3 := Lib.hid ho3
   clear hk3 hf3 ho3
   by_cases hov : vs[i] ≤ 4611686018427387903
   ·have hone : varsOK [vs[i]] = true := by simp [varsOK, hov]
    have he : varsErr [vs[i]] = 0 := by unfold varsErr; rw [hone]; rfl
    have hx : Hid (varsR zs [vs[i]] = zs ++ varE vs[i]) := by show _ = _; unfold varsR; rw [hone, if_pos rfl]; simp [varsE]
    rw [he]
    have hn3 : n3 = (zs ++ varE vs[i]).length := by have := HO3.out.1; rwa [hx.out] at this
    have HN3 := Lib.hid hn3
    have hle : (varE vs[i]).length ≤ 8 := by unfold varE; (repeat' split) <;> simp [bigD_length]
    clear he hn3 hone
    go_wp2_with fail
    obtain ⟨k', rfl⟩ : ∃ k', gk = k' + 1 := ⟨gk - 1, by have := HI.out; omega⟩
    go_roundg k'
    case measure => omega
    case rel =>
     refine ⟨i + 1, a3, c3, zs ++ varE vs[i], by have := HI.out; omega, by go_num, by rw [HN3.out], varsOK_step hix HOK.out hov, by rw [varsE_step hix, ← HZ.out], by simp; omega, ?_, HK3.out, HF3.out⟩
     have := HO3.out
     rwa [hx.out, HN3.out] at this
   ·have hone : varsOK [vs[i]] = false := by simp [varsOK]; omega
    have he : varsErr [vs[i]] = 21 := by unfold varsErr; rw [hone]; rfl
    have HE := Lib.hid (varsOK_not hix (by omega))
    rw [he]
    clear he hone
    go_wp2_with fail
    go_returns
    refine ⟨none, 0, 0, by unfold varsErr; rw [HE.out]; rfl, ?_, HK3.out, Near.none _ _ _⟩
    unfold varsR
    rw [HE.out]
    exact (Bo.nil _ _).bd
  ·have hik2 : i = m2 := by have := HI.out; omega
   have HE : Hid (varsOK vs = true) := by
    have := HOK.out
    rw [hik2, HM.out, List.take_length] at this
    exact this
   have HE2 : Hid (zs = xs ++ varsE vs) := by
    have := HZ.out
    rw [hik2, HM.out, List.take_length] at this
    exact this
   clear hik2
   go_wp2_with fail
   go_returns
   refine ⟨a2', zs.length, c2', by unfold varsErr; rw [HE.out]; rfl, ?_, HK.out, HF.out⟩
   unfold varsR
   rw [HE.out, if_pos rfl, ← HE2.out]
   exact HO.out

end Go.Proofs.Ytgfkgmmigbpciaa
