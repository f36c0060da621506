/- Var and Vars of the packages num and bifoldref1. -/
import Derived.Test.YtcfljnlfikkhaaaNumA
namespace Go.Proofs.Ytcfljnlfikkhaaa
open Go.RowKit Go.Deep

theorem byt_congr {x y : Int} (h : x % 256 = y % 256) : byt x = byt y := by unfold byt; rw [h]

/-- A number as a varint. -/
def varE (v : Int) : List UInt8 :=
  if v < 64 then [byt v] else if v < 16384 then bigD (v + 16384) 2 else if v < 1073741824 then bigD (v + 2147483648) 4 else bigD (v + 13835058055282163712) 8

theorem varE_length (v : Int) (h : varLenV v ≠ 0) : ((varE v).length : Int) = varLenV v := by
  unfold varE varLenV at *
  repeat' split
  all_goals simp_all [bigD_length]

/-- Numbers. -/
def Us (vs : List Int) : List Value := vs.map (.int .u64)
def Uv (w : World) (a : Option Addr) (n cap : Nat) (vs : List Int) : Prop := n = vs.length ∧ Vw w a n cap 1 (Us vs) ∧ ∀ v ∈ vs, 0 ≤ v ∧ v ≤ 18446744073709551615

theorem Uv.get {w : World} {a : Option Addr} {n cap : Nat} {vs : List Int} (h : Uv w a n cap vs) (hn : 0 < n) :
    ∃ b off, a = some ⟨b, off, none⟩ ∧ b < w.heap.size ∧ ∀ i (hi : i < vs.length), w.cell? ⟨b, off + i, none⟩ = some (.int .u64 vs[i]) := by
  rcases h.2.1.at_ with h0 | ⟨b, off, ha, hb, hc⟩
  · have : vs = [] := by simpa [Us] using h0
    have := h.1
    simp_all
  · exact ⟨b, off, ha, hb, fun i hi => hc i _ (by simp [Us, hi])⟩
theorem Uv.keep {w w' : World} {S : Nat → Prop} {a : Option Addr} {n cap : Nat} {vs : List Int} (h : Uv w a n cap vs) (k : Keeps S w w') (hs : ∀ b, a.map (·.block) = some b → ¬ S b) : Uv w' a n cap vs := ⟨h.1, h.2.1.keep k hs, h.2.2⟩
theorem Uv.lt {w : World} {a : Option Addr} {n cap : Nat} {vs : List Int} (h : Uv w a n cap vs) (hn : 0 < n) : ∀ b, a.map (·.block) = some b → b < w.heap.size := by
  obtain ⟨b, off, rfl, hb, _⟩ := h.get hn
  intro c hc
  cases hc
  exact hb

def varsOK (vs : List Int) : Bool := vs.all fun v => decide (v ≤ 4611686018427387903)
def varsE (vs : List Int) : List UInt8 := vs.flatMap varE
def varsR (xs : List UInt8) (vs : List Int) : List UInt8 := if varsOK vs then xs ++ varsE vs else []
def varsErr (vs : List Int) : Int := if varsOK vs then 0 else 21

theorem or8_comm (a b : Int) : bits .or .u8 a b = bits .or .u8 b a := by simp only [bits, BitVec.or_comm]
theorem or64_comm (a b : Int) : bits .or .u64 a b = bits .or .u64 b a := by simp only [bits, BitVec.or_comm]
theorem bigD_1 (v : Int) : bigD v 1 = [byt v] := by simp [bigD]
theorem bigD_2 (v : Int) : bigD v 2 = [byt (v / 256), byt v] := by simp [bigD]
theorem bigD_4 (v : Int) : bigD v 4 = [byt (v / 16777216), byt (v / 65536), byt (v / 256), byt v] := by simp [bigD]
theorem bigD_8 (v : Int) : bigD v 8 = [byt (v / 72057594037927936), byt (v / 281474976710656), byt (v / 1099511627776), byt (v / 4294967296), byt (v / 16777216), byt (v / 65536), byt (v / 256), byt v] := by simp [bigD]

theorem varLenV_cases (v : Int) : (v < 64 ∧ varLenV v = 1) ∨ (64 ≤ v ∧ v < 16384 ∧ varLenV v = 2) ∨ (16384 ≤ v ∧ v < 1073741824 ∧ varLenV v = 4) ∨ (1073741824 ≤ v ∧ v ≤ 4611686018427387903 ∧ varLenV v = 8) ∨ (4611686018427387903 < v ∧ varLenV v = 0) := by
  by_cases h1 : v < 64
  · exact .inl ⟨h1, by unfold varLenV; rw [if_pos h1]⟩
  · by_cases h2 : v < 16384
    · exact .inr (.inl ⟨by omega, h2, by unfold varLenV; rw [if_neg h1, if_pos h2]⟩)
    · by_cases h3 : v < 1073741824
      · exact .inr (.inr (.inl ⟨by omega, h3, by unfold varLenV; rw [if_neg h1, if_neg h2, if_pos h3]⟩))
      · by_cases h4 : v ≤ 4611686018427387903
        · exact .inr (.inr (.inr (.inl ⟨by omega, h4, by unfold varLenV; rw [if_neg h1, if_neg h2, if_neg h3, if_pos h4]⟩)))
        · exact .inr (.inr (.inr (.inr ⟨by omega, by unfold varLenV; rw [if_neg h1, if_neg h2, if_neg h3, if_neg h4]⟩)))

theorem byt_lt (x : Int) : 0 ≤ ((byt x).toNat : Int) ∧ ((byt x).toNat : Int) < 256 := by rw [byt_val]; omega

/-- The first byte of a varint, from the number's first and the size. -/
theorem varE_1 (v : Int) (h1 : v < 64) : varE v = [byt v] := by unfold varE; rw [if_pos h1]
theorem varE_2 (v : Int) (h0 : 64 ≤ v) (h1 : v < 16384) : varE v = [byt (v / 256 + 64), byt v] := by
  unfold varE; rw [if_neg (by omega), if_pos h1, bigD_2, byt_congr (x := (v + 16384) / 256) (y := v / 256 + 64) (by omega), byt_congr (x := v + 16384) (y := v) (by omega)]
theorem varE_4 (v : Int) (h0 : 16384 ≤ v) (h1 : v < 1073741824) : varE v = [byt (v / 16777216 + 128), byt (v / 65536), byt (v / 256), byt v] := by
  unfold varE; rw [if_neg (by omega), if_neg (by omega), if_pos h1, bigD_4, byt_congr (x := (v + 2147483648) / 16777216) (y := v / 16777216 + 128) (by omega), byt_congr (x := (v + 2147483648) / 65536) (y := v / 65536) (by omega), byt_congr (x := (v + 2147483648) / 256) (y := v / 256) (by omega), byt_congr (x := v + 2147483648) (y := v) (by omega)]
theorem varE_8 (v : Int) (h0 : 1073741824 ≤ v) : varE v = [byt (v / 72057594037927936 + 192), byt (v / 281474976710656), byt (v / 1099511627776), byt (v / 4294967296), byt (v / 16777216), byt (v / 65536), byt (v / 256), byt v] := by
  unfold varE
  rw [if_neg (by omega), if_neg (by omega), if_neg (by omega), bigD_8, byt_congr (x := (v + 13835058055282163712) / 72057594037927936) (y := v / 72057594037927936 + 192) (by omega), byt_congr (x := (v + 13835058055282163712) / 281474976710656) (y := v / 281474976710656) (by omega), byt_congr (x := (v + 13835058055282163712) / 1099511627776) (y := v / 1099511627776) (by omega), byt_congr (x := (v + 13835058055282163712) / 4294967296) (y := v / 4294967296) (by omega), byt_congr (x := (v + 13835058055282163712) / 16777216) (y := v / 16777216) (by omega), byt_congr (x := (v + 13835058055282163712) / 65536) (y := v / 65536) (by omega), byt_congr (x := (v + 13835058055282163712) / 256) (y := v / 256) (by omega), byt_congr (x := v + 13835058055282163712) (y := v) (by omega)]

/-- The size's bits set on the first byte. -/
theorem first_or (x s : Int) (hx : x % 256 < 64) (hs : s = 0 ∨ s = 64 ∨ s = 128 ∨ s = 192) : bits .or .u8 ((byt x).toNat : Int) s = ((byt (x + s)).toNat : Int) := by
  have h0 : 0 ≤ x % 256 := Int.emod_nonneg _ (by omega)
  rw [byt_val, byt_val, or8_comm, or8 6 (by omega) (by omega) (by omega) h0 (by omega) (by omega)]
  omega

theorem varsOK_step {vs : List Int} {i : Nat} (hi : i < vs.length) (h : varsOK (vs.take i) = true) (hv : vs[i] ≤ 4611686018427387903) : varsOK (vs.take (i + 1)) = true := by
  unfold varsOK at *
  rw [List.take_succ_eq_append_getElem hi, List.all_append, h]
  simpa using hv
theorem varsE_step {vs : List Int} {i : Nat} (hi : i < vs.length) (xs : List UInt8) : xs ++ varsE (vs.take (i + 1)) = (xs ++ varsE (vs.take i)) ++ varE vs[i] := by
  unfold varsE
  rw [List.take_succ_eq_append_getElem hi, List.flatMap_append]
  simp
theorem varsOK_not {vs : List Int} {i : Nat} (hi : i < vs.length) (hv : 4611686018427387903 < vs[i]) : varsOK vs = false := by
  cases h : varsOK vs with
  | false => rfl
  | true =>
    unfold varsOK at h
    have := List.all_eq_true.1 h vs[i] (List.getElem_mem hi)
    simp at this
    omega

/-- A round of Var. -/
theorem var_step {B0 base : Nat} {w0 w1 w3 : World} {g m n c3 : Nat} {zs cs : List UInt8} {c c' : UInt8} {x : Int} (ho : Bo base w3 (some ⟨g, 0, none⟩) m c3 (zs ++ c :: cs)) (hB : B0 ≤ base) (h0 : Below B0 w0 w1) (hk : Below base w1 w3) (hg : base ≤ g) (hx : x = (c'.toNat : Int)) (hn : n = zs.length) :
    Bo B0 (w3.setCell ⟨g, n, none⟩ (Value.int .u8 x)) (some ⟨g, 0, none⟩) m c3 (zs ++ c' :: cs) ∧ Below B0 w0 (w3.setCell ⟨g, n, none⟩ (Value.int .u8 x)) := by
  subst hx hn
  have hm := ho.1
  have := ho.set zs.length (by simp at hm; omega) c'
  refine ⟨?_, (h0.trans (hk.mono hB)).setCell (by show B0 ≤ g; omega) _⟩
  have e : (zs ++ c :: cs).set zs.length c' = zs ++ c' :: cs := by rw [List.set_append_right _ _ (Nat.le_refl _)]; simp
  rw [e] at this
  exact this.mono hB

theorem Near.none (base : Nat) (w : World) (a : Option Addr) : Near base w a none := fun k h => by cases h

theorem varsOK_cons (v : Int) (vs : List Int) : varsOK (v :: vs) = (varsOK [v] && varsOK vs) := by simp [varsOK]

end Go.Proofs.Ytcfljnlfikkhaaa
