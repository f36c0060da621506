/- Headers and payloads as arguments; packets in a row. -/
import Derived.Test.YtaokhgpidifedaaPktN
namespace Go.Proofs.Ytaokhgpidifedaa
open Go.RowKit Go.Deep

/-- A header and a payload. -/
structure It where
  (ty ve : Int) (da : Option Addr) (dn dc : Nat) (dx : List UInt8) (sa : Option Addr) (sn sc : Nat) (sx : List UInt8) (pn pl : Int) (pa : Option Addr) (pm pc : Nat) (ys : List UInt8)
def It.hc (t : It) : List Value := [.bool true, .int .i64 t.ty, .int .u32 t.ve, .slice t.da t.dn t.dc, .slice t.sa t.sn t.sc, .int .u64 t.pn, .int .i64 t.pl]
def It.sl (t : It) : Value := .slice t.pa t.pm t.pc
def It.by (t : It) : List UInt8 := pktL t.ty t.ve t.dx t.sx t.pn t.pl.toNat t.ys
structure It.Ok (w : World) (t : It) : Prop where
  d : ∀ w', Below w.heap.size w w' → By w' t.da t.dn t.dc t.dx
  s : ∀ w', Below w.heap.size w w' → By w' t.sa t.sn t.sc t.sx
  p : ∀ w', Below w.heap.size w w' → By w' t.pa t.pm t.pc t.ys
  v0 : 0 ≤ t.ve
  v1 : t.ve ≤ 4294967295
  n0 : 0 ≤ t.pn
  ok : wrOK true t.ty t.ve t.dx t.sx t.pn t.pl t.ys = true
def hcs (l : List It) : List Value := l.flatMap It.hc
def sls (l : List It) : List Value := l.map It.sl
def bys (l : List It) : List UInt8 := l.flatMap It.by
theorem hcs_snoc (l : List It) (t : It) : hcs (l ++ [t]) = hcs l ++ t.hc := by simp [hcs]
theorem sls_snoc (l : List It) (t : It) : sls (l ++ [t]) = sls l ++ [t.sl] := by simp [sls]
theorem bys_snoc (l : List It) (t : It) : bys (l ++ [t]) = bys l ++ t.by := by simp [bys]
theorem It.Ok.len {w : World} {t : It} (h : t.Ok w) : t.by.length ≤ 1200 := by
  have := h.ok
  unfold wrOK at this
  simp only [Bool.and_eq_true, decide_eq_true_eq] at this
  exact this.2
theorem bys_le {w : World} : ∀ (l : List It), (∀ t ∈ l, t.Ok w) → (bys l).length ≤ 1200 * l.length
  | [], _ => by simp [bys]
  | t :: l, h => by
    have h1 := (h t (List.mem_cons_self ..)).len
    have h2 := bys_le l (fun u hu => h u (List.mem_cons_of_mem _ hu))
    have e : bys (t :: l) = t.by ++ bys l := by simp [bys]
    rw [e, List.length_append, List.length_cons]
    omega
theorem bys_cons (t : It) (l : List It) : bys (t :: l) = t.by ++ bys l := by simp [bys]
theorem hcs_length : ∀ (l : List It), (hcs l).length = l.length * 7
  | [] => rfl
  | t :: l => by
    have e : hcs (t :: l) = t.hc ++ hcs l := by simp [hcs]
    rw [e, List.length_append, hcs_length l]
    simp [It.hc]
    omega
theorem hcs_get : ∀ (l : List It) (i : Nat) (hi : i < l.length) (j : Nat), j < 7 → (hcs l)[i * 7 + j]? = l[i].hc[j]?
  | t :: l, 0, _, j, hj => by
    have e : hcs (t :: l) = t.hc ++ hcs l := by simp [hcs]
    rw [e, Nat.zero_mul, Nat.zero_add, List.getElem?_append_left (by simp [It.hc]; omega)]
    rfl
  | t :: l, i + 1, hi, j, hj => by
    have e : hcs (t :: l) = t.hc ++ hcs l := by simp [hcs]
    have h7 : t.hc.length = 7 := rfl
    rw [e, List.getElem?_append_right (by rw [h7]; omega), h7, show (i + 1) * 7 + j - 7 = i * 7 + j by omega]
    exact hcs_get l i (by simpa using hi) j hj
theorem sls_get (l : List It) (i : Nat) (hi : i < l.length) : (sls l)[i]? = some l[i].sl := by simp [sls, hi]

theorem Rd.bytes {w : World} {v : Value} (h : Rd Try.prog w 24 v) : ∃ a n cap xs, v = .slice a n cap ∧ ∀ w', Below w.heap.size w w' → By w' a n cap xs := by
  obtain ⟨a, len, cap, V, rfl, hl, hm, hs, hv⟩ := h.row Try.underlying24 (by kernel_rfl)
  have hc : ∀ i, i < len → ∃ c : UInt8, V i 0 = B c := by
    intro i hi
    obtain ⟨n, hn, hw⟩ := (hv i (by omega)).int Try.underlying5
    have := wf_u8_iff hw
    refine ⟨byt n, ?_⟩
    rw [hn, ← B_byt, Int.emod_eq_of_lt (by omega) (by omega)]
  obtain ⟨xs, h1, h2⟩ := list_of B (fun i => V i 0) len hc
  exact ⟨a, len, cap, xs, rfl, fun w' hb => ⟨h1.symm, Seen.vw hl hm (hs.keep hb (Nat.le_refl _)) h1 h2⟩⟩

theorem Arg.bytes2 {w : World} {v : Value} (h : Arg Try.prog w 24 v) : ∃ a n cap xs, v = .slice a n cap ∧ ∀ w', Below w.heap.size w w' → By w' a n cap xs :=
  (h.rd_slice Try.underlying24).bytes

/-- Element i of an argument that is a slice of headers. -/
def HdAt (w : World) (a : Option Addr) (i : Nat) (lg : Bool) (ty ve : Int) (da : Option Addr) (dn dc : Nat) (dx : List UInt8) (sa : Option Addr) (sn sc : Nat) (sx : List UInt8) (pn pl : Int) : Prop :=
  ∃ b off, a = some ⟨b, off, none⟩ ∧ b < w.heap.size ∧ (∀ w', Below w.heap.size w w' → (w'.cell? ⟨b, off + i * 7, none⟩ = some (.bool lg) ∧ w'.cell? ⟨b, off + i * 7 + 1, none⟩ = some (.int .i64 ty) ∧ w'.cell? ⟨b, off + i * 7 + 2, none⟩ = some (.int .u32 ve) ∧ w'.cell? ⟨b, off + i * 7 + 3, none⟩ = some (.slice da dn dc) ∧ w'.cell? ⟨b, off + i * 7 + 4, none⟩ = some (.slice sa sn sc) ∧ w'.cell? ⟨b, off + i * 7 + 5, none⟩ = some (.int .u64 pn) ∧ w'.cell? ⟨b, off + i * 7 + 6, none⟩ = some (.int .i64 pl)) ∧ By w' da dn dc dx ∧ By w' sa sn sc sx) ∧ 0 ≤ ve ∧ ve ≤ 4294967295 ∧ 0 ≤ pn ∧ pn ≤ 18446744073709551615
theorem Arg.headers {w : World} {v : Value} (h : Arg Try.prog w 22 v) : ∃ a n cap, v = .slice a n cap ∧ n ≤ cap ∧ cap ≤ maxLen ∧ ∀ i, i < n → ∃ lg ty ve da dn dc dx sa sn sc sx pn pl, HdAt w a i lg ty ve da dn dc dx sa sn sc sx pn pl := by
  obtain ⟨a, len, cap, V, rfl, hl, hm, hs, hv⟩ := (h.rd_slice Try.underlying22).slice Try.underlying22 Try.underlying29 (by kernel_rfl) (by kernel_rfl) (by decide)
  refine ⟨a, len, cap, rfl, hl, hm, fun i hi => ?_⟩
  have hi' : i < cap := by omega
  obtain ⟨lg, e0⟩ := (hv i 0 _ hi' rfl).bool Try.underlying4
  obtain ⟨ty, e1, _⟩ := (hv i 1 _ hi' rfl).int Try.underlying3
  obtain ⟨ve, e2, w2⟩ := (hv i 2 _ hi' rfl).int Try.underlying26
  obtain ⟨da, dn, dc, dx, e3, k3⟩ := (hv i 3 _ hi' rfl).bytes
  obtain ⟨sa, sn, sc, sx, e4, k4⟩ := (hv i 4 _ hi' rfl).bytes
  obtain ⟨pn, e5, w5⟩ := (hv i 5 _ hi' rfl).int Try.underlying27
  obtain ⟨pl, e6, _⟩ := (hv i 6 _ hi' rfl).int Try.underlying3
  have b2 := wf_u32_iff w2
  have b5 := wf_u64_iff w5
  rcases hs with h0 | ⟨b, off, rfl, hb, hc⟩
  · omega
  refine ⟨lg, ty, ve, da, dn, dc, dx, sa, sn, sc, sx, pn, pl, b, off, rfl, hb, fun w' hk => ?_, b2.1, b2.2, b5.1, b5.2⟩
  have at_ : ∀ j, j < 7 → w'.cell? ⟨b, off + i * 7 + j, none⟩ = some (V i j) := fun j hj => by
    rw [hk.cell (p := ⟨b, off + i * 7 + j, none⟩) hb]
    exact hc i j hi' hj
  refine ⟨⟨?_, ?_, ?_, ?_, ?_, ?_, ?_⟩, k3 w' hk, k4 w' hk⟩
  · rw [← e0]; exact at_ 0 (by decide)
  · rw [← e1]; exact at_ 1 (by decide)
  · rw [← e2]; exact at_ 2 (by decide)
  · rw [← e3]; exact at_ 3 (by decide)
  · rw [← e4]; exact at_ 4 (by decide)
  · rw [← e5]; exact at_ 5 (by decide)
  · rw [← e6]; exact at_ 6 (by decide)

/-- Element i of an argument that is a slice of slices of bytes. -/
def RowAt (w : World) (a : Option Addr) (i : Nat) (pa : Option Addr) (pm pc : Nat) (ys : List UInt8) : Prop :=
  ∃ b off, a = some ⟨b, off, none⟩ ∧ b < w.heap.size ∧ ∀ w', Below w.heap.size w w' → w'.cell? ⟨b, off + i, none⟩ = some (.slice pa pm pc) ∧ By w' pa pm pc ys
theorem Arg.rows {w : World} {v : Value} (h : Arg Try.prog w 23 v) : ∃ a n cap, v = .slice a n cap ∧ n ≤ cap ∧ cap ≤ maxLen ∧ ∀ i, i < n → ∃ pa pm pc ys, RowAt w a i pa pm pc ys := by
  obtain ⟨a, len, cap, V, rfl, hl, hm, hs, hv⟩ := (h.rd_slice Try.underlying23).row Try.underlying23 (by kernel_rfl)
  refine ⟨a, len, cap, rfl, hl, hm, fun i hi => ?_⟩
  have hi' : i < cap := by omega
  obtain ⟨pa, pm, pc, ys, e, k⟩ := (hv i hi').bytes
  rcases hs with h0 | ⟨b, off, rfl, hb, hc⟩
  · omega
  refine ⟨pa, pm, pc, ys, b, off, rfl, hb, fun w' hk => ⟨?_, k w' hk⟩⟩
  have h1 := hc i 0 hi' (by decide)
  rw [Nat.mul_one, Nat.add_zero] at h1
  rw [hk.cell (p := ⟨b, off + i, none⟩) hb, h1, e]

theorem last_w (zs : List UInt8) (h : zs.length ≤ 100) : wrX false 0 0 (List.replicate 8 0) [] 1 2 zs = pktS (List.replicate 8 0) 1 2 zs ∧ wrE false 0 0 (List.replicate 8 0) [] 1 2 zs = 0 := by
  have e : hdOK false 0 1 2 (List.replicate 8 (0 : UInt8)).length ([] : List UInt8).length = true := by decide +kernel
  have hk : wrOK false 0 0 (List.replicate 8 0) [] 1 2 zs = true := by
    unfold wrOK
    rw [e, decide_eq_true (show zs.length ≤ 1200 by omega), decide_eq_true]
    · rfl
    · show (pktS (List.replicate 8 0) 1 2 zs).length ≤ 1200
      simp [pktS, bigD_length]
      omega
  exact wr_good hk
theorem last_l (zs : List UInt8) : (pktS (List.replicate 8 0) 1 2 zs).length = 11 + zs.length := by
  simp [pktS, bigD_length]; omega

/-- What is left to be read behind j packets. -/
def restB (L : List It) (T : List UInt8) (j : Nat) : List UInt8 := if j ≤ L.length then bys (L.drop j) ++ T else []
theorem restB_go {L : List It} {T : List UInt8} {j : Nat} (h : j < L.length) : restB L T j = L[j].by ++ restB L T (j + 1) := by
  unfold restB
  rw [if_pos (by omega), if_pos (by omega), List.drop_eq_getElem_cons h, bys_cons, List.append_assoc]
theorem restB_last (L : List It) (T : List UInt8) : restB L T L.length = T ∧ restB L T (L.length + 1) = [] := by
  unfold restB
  rw [if_pos (Nat.le_refl _), if_neg (by omega), List.drop_length]
  exact ⟨by simp [bys], rfl⟩

theorem want_cells {w0 W : World} {L : List It} {b2 o2 b3 o3 j : Nat} (hj : j < L.length) (h2 : b2 < w0.heap.size) (c2 : ∀ k u, (hcs L)[k]? = some u → w0.cell? ⟨b2, o2 + k, none⟩ = some u) (h3 : b3 < w0.heap.size) (c3 : ∀ k u, (sls L)[k]? = some u → w0.cell? ⟨b3, o3 + k, none⟩ = some u) (hk : Below w0.heap.size w0 W) :
    W.cell? ⟨b2, o2 + j * 7, none⟩ = some (.bool true) ∧ W.cell? ⟨b2, o2 + j * 7 + 1, none⟩ = some (.int .i64 L[j].ty) ∧ W.cell? ⟨b2, o2 + j * 7 + 2, none⟩ = some (.int .u32 L[j].ve) ∧ W.cell? ⟨b2, o2 + j * 7 + 3, none⟩ = some (.slice L[j].da L[j].dn L[j].dc) ∧ W.cell? ⟨b2, o2 + j * 7 + 4, none⟩ = some (.slice L[j].sa L[j].sn L[j].sc) ∧ W.cell? ⟨b2, o2 + j * 7 + 5, none⟩ = some (.int .u64 L[j].pn) ∧ W.cell? ⟨b2, o2 + j * 7 + 6, none⟩ = some (.int .i64 L[j].pl) ∧ W.cell? ⟨b3, o3 + j, none⟩ = some (.slice L[j].pa L[j].pm L[j].pc) := by
  have at_ : ∀ k, k < 7 → ∀ u, L[j].hc[k]? = some u → W.cell? ⟨b2, o2 + j * 7 + k, none⟩ = some u := fun k h7 u hu => by
    rw [hk.cell (p := ⟨b2, o2 + j * 7 + k, none⟩) h2, Nat.add_assoc]
    exact c2 (j * 7 + k) u (by rw [hcs_get L j hj k h7]; exact hu)
  refine ⟨at_ 0 (by decide) _ rfl, at_ 1 (by decide) _ rfl, at_ 2 (by decide) _ rfl, at_ 3 (by decide) _ rfl, at_ 4 (by decide) _ rfl, at_ 5 (by decide) _ rfl, at_ 6 (by decide) _ rfl, ?_⟩
  rw [hk.cell (p := ⟨b3, o3 + j, none⟩) h3]
  exact c3 j _ (sls_get L j hj)

theorem restB_le (L : List It) (T : List UInt8) (j : Nat) : (restB L T j).length ≤ (bys L ++ T).length := by
  unfold restB
  split
  · rw [List.length_append, List.length_append]
    have h : bys L = bys (L.take j) ++ bys (L.drop j) := by unfold bys; rw [← List.flatMap_append, List.take_append_drop]
    rw [h, List.length_append]
    omega
  · exact Nat.zero_le _
theorem It.Ok.facts {w : World} {t : It} (h : t.Ok w) : 0 ≤ t.ty ∧ t.ty ≤ 3 ∧ t.dx.length ≤ 20 ∧ t.sx.length ≤ 20 ∧ (1 ≤ t.pl.toNat ∧ t.pl.toNat ≤ 4) ∧ t.pl = (t.pl.toNat : Int) ∧ t.pn < 2 ^ (8 * t.pl.toNat) ∧ t.ys.length ≤ 1200 := by
  have h1 := h.ok
  unfold wrOK hdOK pnOK at h1
  simp only [Bool.and_eq_true, decide_eq_true_eq, if_true] at h1
  obtain ⟨⟨⟨⟨a1, a2, a3⟩, a4, a5, a6, a7⟩, a8⟩, _⟩ := h1
  exact ⟨a4, a5, a6, a7, by omega, by omega, a3, a8⟩

end Go.Proofs.Ytaokhgpidifedaa
