/- Add of the program's blocks. -/
import Derived.Test.YtcfljnlfikkhaaaBlkC
import Derived.Test.YtcfljnlfikkhaaaHeldA
import Derived.Test.YtcfljnlfikkhaaaHeldZ
import Derived.Test.YtcfljnlfikkhaaaHeldY
namespace Go.Proofs.Ytcfljnlfikkhaaa
open Go.RowKit Go.Deep

section
variable {ops : Array Oper} {Q : Exit → Act → World → Prop} {md : Region.Mode} {S : World → Prop} {z : Nat}
theorem z_own {i : Nat} {o : Oper} {fuel : Nat} {listed : Array Bool} {ac : Act} {w : World} (ho : ops[i]? = some o) (hr : Region.ready md ops listed = [i]) (hw : Region.wanted o (yielded ops ac.tmps) = true)
    (s x : Operand) (hop : o.op = Op.call { callee := Callee.builtin Builtin.append, args := #[s, x], argTypes := #[29, 29] }) (base : Nat)
    (a : Option Addr) (n cap : Nat) (xs : List UInt8) (hs : ac.eval s = .slice a n cap) (hd : Bo base w a n cap xs) (a1 : Option Addr) (m c1 : Nat) (ys : List UInt8) (hx : ac.eval x = .slice a1 m c1) (hy : By w a1 m c1 ys)
    (b1 : n + m ≤ 140737488355328) (hb : base ≤ w.heap.size)
    (hK : ∀ a' cap' w', Bo base w' a' (n + m) cap' (xs ++ ys) → Keeps (mine base a) w w' →
        S w' ∧ wpAnyZ Try.prog md ops Q S z fuel (listed.setIfInBounds i true) (ac.put o.dst (.slice a' (n + m) cap')) w') : wpAnyZ Try.prog md ops Q S z (fuel + 1) listed ac w := by
  obtain ⟨inf, hi, hz, hs1, hs2⟩ := info_parts info8
  have hm : m = ys.length := hy.1
  refine z_app ho hr hw s x 29 29 hop base 5 inf _ 1 1 Try.underlying29 hi hz hs1 hs2 rfl a n cap (Bs xs) hs (.inl hd.2) (.slice a1 m c1) hx m (Bs ys) (hy.2.src Try.underlying29 (Bs_one ys)) (by simp only [maxLen]; omega) (by omega) hb ?_
  intro a' cap' w' _ hk _ h1 h2
  exact hK a' cap' w' (own_app hd hm h1 h2) hk
end

theorem wp_named {P : Program} {c : Code} {Q : Exit → Act → World → Prop} {a : Act} {w : World} (h : ∀ w' : World, w = w' → Code.wp P c Q a w') : Code.wp P c Q a w := h w rfl
theorem calls_named {P : Program} {f : FuncId} {args : Array Value} {w : World} {Q : Ending → World → Prop} (h : ∀ w' : World, w = w' → Calls P f args w' Q) : Calls P f args w Q := h w rfl
theorem below_no {w w' : World} (h : Below w.heap.size w w') : Keeps (fun _ => False) w w' := (Below.keeps h).mono (fun k h1 h2 => by omega)
theorem Keeps.to {S : Nat → Prop} {w w' : World} (h : Keeps (fun _ => False) w w') : Keeps S w w' := h.mono (fun _ _ f => False.elim f)
theorem Keeps.noneK {base : Nat} {w w' : World} (h : Keeps (mine base none) w w') : Keeps (fun _ => False) w w' := h.mono (fun _ _ f => absurd f mine_none)

/-- What Add does. -/
def AdP (base b : Nat) (s : Bk) (t fl st : Int) (xs : List UInt8) (w : World) (e : Ending) (w' : World) : Prop :=
  e = .returned (.tuple #[.bool (s.done t fl st xs), .int .i64 (s.rule t fl st xs)]) ∧ PkM base w' b (s.add t fl st xs) ∧ Keeps (fun k => k = b) w w'

theorem takes_may {s : Bk} {t fl st : Int} {xs : List UInt8} (h : s.may t st = false) : s.takes t fl st xs = false := by simp [Bk.takes, h]
theorem takes_says {s : Bk} {t fl st : Int} {xs : List UInt8} (h : s.says t = false) : s.takes t fl st xs = false := by simp [Bk.takes, h]
theorem takes_pay {s : Bk} {t fl st : Int} {xs : List UInt8} (h : payQ t fl st xs ≠ 0) : s.takes t fl st xs = false := by simp [Bk.takes, h]
theorem takes_long {s : Bk} {t fl st : Int} {xs : List UInt8} (h : s.most < ((s.ys t fl xs).length : Int)) : s.takes t fl st xs = false := by
  unfold Bk.takes
  rw [decide_eq_false (show ¬ (((s.ys t fl xs).length : Int) ≤ s.most) by omega), Bool.and_false]
theorem takes_yes {s : Bk} {t fl st : Int} {xs : List UInt8} (h1 : s.may t st = true) (h2 : s.says t = true) (h3 : payQ t fl st xs = 0) (h4 : ¬ s.most < ((s.ys t fl xs).length : Int)) : s.takes t fl st xs = true := by
  unfold Bk.takes
  rw [h1, h2, h3, decide_eq_true (show (((s.ys t fl xs).length : Int) ≤ s.most) by omega)]; rfl
theorem add_not {s : Bk} {t fl st : Int} {xs : List UInt8} (h : s.takes t fl st xs = false) : s.add t fl st xs = s ∧ s.done t fl st xs = false := by
  simp [Bk.add, Bk.done, h]
theorem may_types {s : Bk} {t st : Int} (h1 : s.may t st = true) (h2 : s.says t = true) : t = 1 ∨ t = 9 := by
  unfold Bk.may at h1
  unfold Bk.says at h2
  split at h1
  · simp at h1; exact .inr h1.1
  · rename_i h
    rw [if_neg h] at h2
    simp at h2; exact .inl h2
theorem payX_le (t fl : Int) (xs : List UInt8) : (payX t fl xs).length ≤ xs.length := by
  unfold payX
  split
  · exact Nat.le_refl _
  · simp only [List.length_take, List.length_drop]; omega

set_option maxHeartbeats 1600000 in
theorem add_may (base b : Nat) (s : Bk) (t fl st : Int) (fa : Option Addr) (fn fc : Nat) (xs : List UInt8) (w : World) (hb : PkM base w b s) (hs : s.Ok) (hx : By w fa fn fc xs) (hn : fn ≤ 1000000) (hm : s.may t st = false) :
    Calls Try.prog 8 #[.pointer (some ⟨b, 0, none⟩), FrV t fl st fa fn fc] w (AdP base b s t fl st xs w) := by
  have hk0 : Keeps (fun _ => False) w (w.alloc (.cells #[.int .u8 t, .int .u8 fl, .int .u32 st, .slice fa fn fc] 33 (0, 0))) := (Keeps.refl _ w).alloc _
  have HB0 := Lib.hid (hb.keep hk0 (fun _ h => False.elim h) (fun h => h))
  have HK0 := Lib.hid hk0
  have HF0 := Lib.hid (Blk.new w #[.int .u8 t, .int .u8 fl, .int .u32 st, .slice fa fn fc] 33)
  have HX := Lib.hid hx
  have hbb : b < w.heap.size := Nat.lt_of_lt_of_le hb.1 hb.2.1
  clear hk0 hb hx
  have HQ : Hid (s.done t fl st xs = false ∧ s.rule t fl st xs = 6 ∧ s.add t fl st xs = s) := Lib.hid ⟨(add_not (takes_may hm)).2, by unfold Bk.rule; rw [if_pos hm], (add_not (takes_may hm)).1⟩
  have HM := Lib.hid hm
  clear hm
  unfold FrV at *
  go_enter Try.func8, Try.ntmps8
  go_wp2_with fail
  refine (comes_any base b s t fl st fa fn fc _ HB0.out).mono ?_
  rintro e w1 ⟨rfl, hk1⟩
  have hk1' := HK0.out.trans (below_no hk1)
  have HB1 := Lib.hid (HB0.out.keep (below_no hk1) (fun _ h => False.elim h) (fun h => h))
  have HF1 := Lib.hid ((below_no hk1).blk HF0.out (fun h => h))
  have HK1 := Lib.hid hk1'
  rw [HM.out]
  clear hk1 hk1'
  go_wp2_with fail
  go_returns
  exact ⟨by rw [HQ.out.1, HQ.out.2.1]; rfl, by rw [HQ.out.2.2]; exact HB1.out, HK1.out.to⟩

set_option maxHeartbeats 1600000 in
theorem add_says (base b : Nat) (s : Bk) (t fl st : Int) (fa : Option Addr) (fn fc : Nat) (xs : List UInt8) (w : World) (hb : PkM base w b s) (hs : s.Ok) (hx : By w fa fn fc xs) (hn : fn ≤ 1000000) (hm : s.may t st = true) (hy : s.says t = false) :
    Calls Try.prog 8 #[.pointer (some ⟨b, 0, none⟩), FrV t fl st fa fn fc] w (AdP base b s t fl st xs w) := by
  have hk0 : Keeps (fun _ => False) w (w.alloc (.cells #[.int .u8 t, .int .u8 fl, .int .u32 st, .slice fa fn fc] 33 (0, 0))) := (Keeps.refl _ w).alloc _
  have HB0 := Lib.hid (hb.keep hk0 (fun _ h => False.elim h) (fun h => h))
  have HK0 := Lib.hid hk0
  have HF0 := Lib.hid (Blk.new w #[.int .u8 t, .int .u8 fl, .int .u32 st, .slice fa fn fc] 33)
  have HX := Lib.hid hx
  have hbb : b < w.heap.size := Nat.lt_of_lt_of_le hb.1 hb.2.1
  clear hk0 hb hx
  have HQ : Hid (s.done t fl st xs = false ∧ s.rule t fl st xs = 0 ∧ s.add t fl st xs = s) := Lib.hid ⟨(add_not (takes_says hy)).2, by unfold Bk.rule; rw [if_neg (by rw [hm]; simp), if_pos hy], (add_not (takes_says hy)).1⟩
  have HM := Lib.hid hm
  have HY := Lib.hid hy
  clear hm hy
  unfold FrV at *
  go_enter Try.func8, Try.ntmps8
  go_wp2_with fail
  refine (comes_any base b s t fl st fa fn fc _ HB0.out).mono ?_
  rintro e w1 ⟨rfl, hk1⟩
  have hk1' := HK0.out.trans (below_no hk1)
  have HB1 := Lib.hid (HB0.out.keep (below_no hk1) (fun _ h => False.elim h) (fun h => h))
  have HF1 := Lib.hid ((below_no hk1).blk HF0.out (fun h => h))
  have HK1 := Lib.hid hk1'
  rw [HM.out, HY.out]
  clear hk1 hk1'
  go_wp2_with fail
  go_returns
  exact ⟨by rw [HQ.out.1, HQ.out.2.1]; rfl, by rw [HQ.out.2.2]; exact HB1.out, HK1.out.to⟩

set_option maxHeartbeats 1600000 in
theorem add_bad (base b : Nat) (s : Bk) (t fl st : Int) (fa : Option Addr) (fn fc : Nat) (xs : List UInt8) (w : World) (hb : PkM base w b s) (hs : s.Ok) (hx : By w fa fn fc xs) (hn : fn ≤ 1000000) (hm : s.may t st = true) (hy : s.says t = true) (hq : payQ t fl st xs ≠ 0) :
    Calls Try.prog 8 #[.pointer (some ⟨b, 0, none⟩), FrV t fl st fa fn fc] w (AdP base b s t fl st xs w) := by
  have hk0 : Keeps (fun _ => False) w (w.alloc (.cells #[.int .u8 t, .int .u8 fl, .int .u32 st, .slice fa fn fc] 33 (0, 0))) := (Keeps.refl _ w).alloc _
  have HB0 := Lib.hid (hb.keep hk0 (fun _ h => False.elim h) (fun h => h))
  have HK0 := Lib.hid hk0
  have HF0 := Lib.hid (Blk.new w #[.int .u8 t, .int .u8 fl, .int .u32 st, .slice fa fn fc] 33)
  have HX := Lib.hid hx
  have hbb : b < w.heap.size := Nat.lt_of_lt_of_le hb.1 hb.2.1
  clear hk0 hb hx
  have HQ : Hid (s.done t fl st xs = false ∧ s.rule t fl st xs = payQ t fl st xs ∧ s.add t fl st xs = s) := Lib.hid ⟨(add_not (takes_pay hq)).2, by unfold Bk.rule; rw [if_neg (by rw [hm]; simp), if_neg (by rw [hy]; simp), if_pos hq], (add_not (takes_pay hq)).1⟩
  have HM := Lib.hid hm
  have HY := Lib.hid hy
  have HT := Lib.hid (may_types hm hy)
  have hqd : (payQ t fl st xs == 0) = false := by simpa using hq
  clear hm hy hq
  unfold FrV at *
  go_enter Try.func8, Try.ntmps8
  go_wp2_with fail
  refine (comes_any base b s t fl st fa fn fc _ HB0.out).mono ?_
  rintro e w1 ⟨rfl, hk1⟩
  have hk1' := HK0.out.trans (below_no hk1)
  have HB1 := Lib.hid (HB0.out.keep (below_no hk1) (fun _ h => False.elim h) (fun h => h))
  have HF1 := Lib.hid ((below_no hk1).blk HF0.out (fun h => h))
  have HK1 := Lib.hid hk1'
  rw [HM.out, HY.out]
  clear hk1 hk1'
  have f10 : w1.cell? ⟨w.heap.size, 0, none⟩ = some (.int .u8 t) := HF1.out.cell 0
  have f11 : w1.cell? ⟨w.heap.size, 1, none⟩ = some (.int .u8 fl) := HF1.out.cell 1
  have f12 : w1.cell? ⟨w.heap.size, 2, none⟩ = some (.int .u32 st) := HF1.out.cell 2
  have f13 : w1.cell? ⟨w.heap.size, 3, none⟩ = some (.slice fa fn fc) := HF1.out.cell 3
  have HX1 := Lib.hid (HX.out.keep HK1.out (fun _ _ h => h))
  go_wp2_with fail
  refine (pay_any t fl st fa fn fc xs w1 HX1.out hn HT.out).mono ?_
  rintro e w2 ⟨a2, m2, c2, ys, rfl, hy2, hq2, hg2, hk2⟩
  have hk2' := HK1.out.trans (below_no hk2)
  have HB2 := Lib.hid (HB1.out.keep (below_no hk2) (fun _ h => False.elim h) (fun h => h))
  have HF2 := Lib.hid ((below_no hk2).blk HF1.out (fun h => h))
  have HK2 := Lib.hid hk2'
  have HY2 := Lib.hid hy2
  have HS2 : Hid (w.heap.size < w2.heap.size) := by have := hk2'.size; have h := HF2.out.lt; exact h
  clear hk2 hk2' hy2 f10 f11 f12 f13
  unfold PyV
  clear hq2 hg2
  generalize payQ t fl st xs = q at *
  go_wp2_with fail
  go_returns
  exact ⟨by rw [HQ.out.1, HQ.out.2.1]; rfl, by rw [HQ.out.2.2]; exact HB2.out.keep ((Keeps.refl _ w2).alloc _) (fun _ h => False.elim h) (fun h => h), (HK2.out.alloc _).to⟩

theorem fin_last {base b Z z5 z7 N c7 : Nat} {a7 : Option Addr} {s : Bk} {t fl st : Int} {xs : List UInt8} {w w8 w9 : World} (h1 : s.add t fl st xs = s.next t fl st xs) (h2 : s.done t fl st xs = lastB fl) (h3 : s.rule t fl st xs = 0) (hl : lastB fl = true)
    (hb : b < base) (hbz : base ≤ Z) (h5 : Z + 2 ≤ z5) (h7 : z5 ≤ z7) (h8 : w8.heap.size = z7) (hn : Blk w8 (Z + 1) #[.int .u32 (s.next t fl st xs).st, .slice a7 N c7, .bool (s.next t fl st xs).fin] 53 ∧ By w8 a7 N c7 (s.next t fl st xs).xs)
    (hg : ∀ b', a7.map (·.block) = some b' → z5 ≤ b' ∧ b' < z7) (hk8 : Keeps (fun _ => False) w w8) (_ : b < w.heap.size) (hB : Blk w9 b #[.int .i64 s.most, .pointer none, .pointer (some ⟨Z + 1, 0, none⟩)] 44) (hk : Keeps (fun k => k = b) w8 w9) :
    AdP base b s t fl st xs w (.returned (.tuple #[.bool true, .int .i64 0])) w9 := by
  have hpt : PtM base w9 (.pointer (some ⟨Z + 1, 0, none⟩)) (s.next t fl st xs) :=
    ⟨Z + 1, a7, N, c7, rfl, by omega, by have := hk.size; omega, hk.blk hn.1 (by omega), hn.2.keep hk (fun b' hb' e => by have := hg b' hb'; omega), fun b' hb' => by have := hg b' hb'; have := hk.size; omega⟩
  refine ⟨by rw [h2, h3, hl], ⟨hb, by have := hk.size; omega, .pointer none, .pointer (some ⟨Z + 1, 0, none⟩), ?_, ?_, ?_⟩, hk8.to.trans hk⟩
  · rw [h1]; exact hB
  · rw [h1]
    show (if (!lastB fl) then _ else _)
    rw [hl]
    rfl
  · rw [h1]
    show (if lastB fl then _ else _)
    rw [hl]
    exact hpt

theorem fin_more {base b Z z5 z7 N c7 : Nat} {a7 : Option Addr} {s : Bk} {t fl st : Int} {xs : List UInt8} {w w8 w9 : World} (h1 : s.add t fl st xs = s.next t fl st xs) (h2 : s.done t fl st xs = lastB fl) (h3 : s.rule t fl st xs = 0) (hl : lastB fl = false)
    (hb : b < base) (hbz : base ≤ Z) (h5 : Z + 2 ≤ z5) (h7 : z5 ≤ z7) (h8 : w8.heap.size = z7) (hn : Blk w8 (Z + 1) #[.int .u32 (s.next t fl st xs).st, .slice a7 N c7, .bool (s.next t fl st xs).fin] 53 ∧ By w8 a7 N c7 (s.next t fl st xs).xs)
    (hg : ∀ b', a7.map (·.block) = some b' → z5 ≤ b' ∧ b' < z7) (hk8 : Keeps (fun _ => False) w w8) (_ : b < w.heap.size) (hB : Blk w9 b #[.int .i64 s.most, .pointer (some ⟨Z + 1, 0, none⟩), .pointer none] 44) (hk : Keeps (fun k => k = b) w8 w9) :
    AdP base b s t fl st xs w (.returned (.tuple #[.bool false, .int .i64 0])) w9 := by
  have hpt : PtM base w9 (.pointer (some ⟨Z + 1, 0, none⟩)) (s.next t fl st xs) :=
    ⟨Z + 1, a7, N, c7, rfl, by omega, by have := hk.size; omega, hk.blk hn.1 (by omega), hn.2.keep hk (fun b' hb' e => by have := hg b' hb'; omega), fun b' hb' => by have := hg b' hb'; have := hk.size; omega⟩
  refine ⟨by rw [h2, h3, hl], ⟨hb, by have := hk.size; omega, .pointer (some ⟨Z + 1, 0, none⟩), .pointer none, ?_, ?_, ?_⟩, hk8.to.trans hk⟩
  · rw [h1]; exact hB
  · rw [h1]
    show (if (!lastB fl) then _ else _)
    rw [hl]
    exact hpt
  · rw [h1]
    show (if lastB fl then _ else _)
    rw [hl]
    rfl

set_option maxRecDepth 100000 in
set_option maxHeartbeats 3200000 in
theorem add_open (base b : Nat) (s : Bk) (t fl st : Int) (fa : Option Addr) (fn fc : Nat) (xs : List UInt8) (w : World) (hb : PkM base w b s) (hs : s.Ok) (hx : By w fa fn fc xs) (hn : fn ≤ 1000000) (hm : s.may t st = true) (hy : s.says t = true) (hq : payQ t fl st xs = 0) (ho : s.opn = true) :
    Calls Try.prog 8 #[.pointer (some ⟨b, 0, none⟩), FrV t fl st fa fn fc] w (AdP base b s t fl st xs w) := by
  have hk0 : Keeps (fun _ => False) w (w.alloc (.cells #[.int .u8 t, .int .u8 fl, .int .u32 st, .slice fa fn fc] 33 (0, 0))) := (Keeps.refl _ w).alloc _
  have HB0 := Lib.hid (hb.keep hk0 (fun _ h => False.elim h) (fun h => h))
  have HK0 := Lib.hid hk0
  have HF0 := Lib.hid (Blk.new w #[.int .u8 t, .int .u8 fl, .int .u32 st, .slice fa fn fc] 33)
  have HX := Lib.hid hx
  have hbb : b < w.heap.size := Nat.lt_of_lt_of_le hb.1 hb.2.1
  clear hk0 hb hx
  have HM := Lib.hid hm
  have HY := Lib.hid hy
  have HT := Lib.hid (may_types hm hy)
  have HQ := Lib.hid hq
  have HO := Lib.hid ho
  have HOK := Lib.hid hs
  clear hm hy hs
  unfold FrV at *
  go_enter Try.func8, Try.ntmps8
  go_wp2_with fail
  refine (comes_any base b s t fl st fa fn fc _ HB0.out).mono ?_
  rintro e w1 ⟨rfl, hk1⟩
  have hk1' := HK0.out.trans (below_no hk1)
  have HB1 := Lib.hid (HB0.out.keep (below_no hk1) (fun _ h => False.elim h) (fun h => h))
  have HF1 := Lib.hid ((below_no hk1).blk HF0.out (fun h => h))
  have HK1 := Lib.hid hk1'
  rw [HM.out, HY.out]
  clear hk1 hk1'
  have f10 : w1.cell? ⟨w.heap.size, 0, none⟩ = some (.int .u8 t) := HF1.out.cell 0
  have f11 : w1.cell? ⟨w.heap.size, 1, none⟩ = some (.int .u8 fl) := HF1.out.cell 1
  have f12 : w1.cell? ⟨w.heap.size, 2, none⟩ = some (.int .u32 st) := HF1.out.cell 2
  have f13 : w1.cell? ⟨w.heap.size, 3, none⟩ = some (.slice fa fn fc) := HF1.out.cell 3
  have HX1 := Lib.hid (HX.out.keep HK1.out (fun _ _ h => h))
  go_wp2_with fail
  refine (pay_any t fl st fa fn fc xs w1 HX1.out hn HT.out).mono ?_
  rintro e w2 ⟨a2, m2, c2, ys, rfl, hy2, hq2, hg2, hk2⟩
  have hk2' := HK1.out.trans (below_no hk2)
  have HB2 := Lib.hid (HB1.out.keep (below_no hk2) (fun _ h => False.elim h) (fun h => h))
  have HF2 := Lib.hid ((below_no hk2).blk HF1.out (fun h => h))
  have HK2 := Lib.hid hk2'
  have HY2 := Lib.hid hy2
  have HS2 : Hid (w.heap.size < w2.heap.size) := by have := hk2'.size; have h := HF2.out.lt; exact h
  clear hk2 hk2' hy2 f10 f11 f12 f13
  unfold PyV
  have HYS := Lib.hid (hq2 hq)
  have HML : Hid (m2 ≤ fn) := by
    show m2 ≤ fn
    have h1 := HY2.out.1
    have h2 := HX.out.1
    have h3 := payX_le t fl xs
    rw [HYS.out] at h1
    omega
  rw [hq]
  clear hq2 hg2 hq
  obtain ⟨hbase, hsize, o, u, hb3, hbo, hbu⟩ := HB2.out
  rw [if_pos ho] at hbo
  have hw0 : s.whl = false := HOK.out.no ho
  rw [if_neg (by rw [hw0]; simp)] at hbu
  subst hbu
  obtain ⟨p, a0, n0, c0, rfl, hp1, hp2, hp3, hp4, hp5⟩ := hbo
  have HA2 := Lib.hid hp4
  have HPP := Lib.hid ((hp3.alloc (.cells #[.slice a2 m2 c2, .slice none 0 0, .int .u32 0, .int .u32 0, .int .u32 0] 49 (0, 0))).alloc (.cells #[.int .u32 st, .slice none 0 0, .bool (bits .and .u8 fl 1 != 0)] 53 (0, 0)))
  have hn0 : n0 ≤ 1000000 := by have h1 := hp4.1; have h2 := HOK.out.len; have h3 := HOK.out.m1; omega
  have hpz : p < w2.heap.size := hp2
  clear hp1 hp2 hp3 hp4 hp5 hw0
  obtain ⟨⟨d0, d1, d2⟩, _⟩ := part_cells HPP.out
  have HB2b := Lib.hid hb3
  have HBS := Lib.hid hbase
  have HB4 := Lib.hid ((hb3.alloc (.cells #[.slice a2 m2 c2, .slice none 0 0, .int .u32 0, .int .u32 0, .int .u32 0] 49 (0, 0))).alloc (.cells #[.int .u32 st, .slice none 0 0, .bool (bits .and .u8 fl 1 != 0)] 53 (0, 0)))
  have HF3 := Lib.hid (HF2.out.alloc (.cells #[.slice a2 m2 c2, .slice none 0 0, .int .u32 0, .int .u32 0, .int .u32 0] 49 (0, 0)))
  have HF4 := Lib.hid (HF3.out.alloc (.cells #[.int .u32 st, .slice none 0 0, .bool (bits .and .u8 fl 1 != 0)] 53 (0, 0)))
  have HP4 := Lib.hid ((Blk.new w2 #[.slice a2 m2 c2, .slice none 0 0, .int .u32 0, .int .u32 0, .int .u32 0] 49).alloc (.cells #[.int .u32 st, .slice none 0 0, .bool (bits .and .u8 fl 1 != 0)] 53 (0, 0)))
  have hn4 := Blk.new (w2.alloc (.cells #[.slice a2 m2 c2, .slice none 0 0, .int .u32 0, .int .u32 0, .int .u32 0] 49 (0, 0))) #[.int .u32 st, .slice none 0 0, .bool (bits .and .u8 fl 1 != 0)] 53
  rw [World.size_alloc] at hn4
  have HN4 := Lib.hid hn4
  obtain ⟨⟨e0, e1, e2⟩, e3, e4, e5⟩ := part_cells HB4.out
  obtain ⟨⟨n4, n5, n6⟩, n7, n8, n9⟩ := part_cells hn4
  have f30 : (w2.alloc (.cells #[.slice a2 m2 c2, .slice none 0 0, .int .u32 0, .int .u32 0, .int .u32 0] 49 (0, 0))).cell? ⟨w.heap.size, 0, none⟩ = some (.int .u8 t) := HF3.out.cell 0
  have f31 : (w2.alloc (.cells #[.slice a2 m2 c2, .slice none 0 0, .int .u32 0, .int .u32 0, .int .u32 0] 49 (0, 0))).cell? ⟨w.heap.size, 1, none⟩ = some (.int .u8 fl) := HF3.out.cell 1
  have f32 : (w2.alloc (.cells #[.slice a2 m2 c2, .slice none 0 0, .int .u32 0, .int .u32 0, .int .u32 0] 49 (0, 0))).cell? ⟨w.heap.size, 2, none⟩ = some (.int .u32 st) := HF3.out.cell 2
  have f33 : (w2.alloc (.cells #[.slice a2 m2 c2, .slice none 0 0, .int .u32 0, .int .u32 0, .int .u32 0] 49 (0, 0))).cell? ⟨w.heap.size, 3, none⟩ = some (.slice fa fn fc) := HF3.out.cell 3
  have f40 : ((w2.alloc (.cells #[.slice a2 m2 c2, .slice none 0 0, .int .u32 0, .int .u32 0, .int .u32 0] 49 (0, 0))).alloc (.cells #[.int .u32 st, .slice none 0 0, .bool (bits .and .u8 fl 1 != 0)] 53 (0, 0))).cell? ⟨w.heap.size, 0, none⟩ = some (.int .u8 t) := HF4.out.cell 0
  have f41 : ((w2.alloc (.cells #[.slice a2 m2 c2, .slice none 0 0, .int .u32 0, .int .u32 0, .int .u32 0] 49 (0, 0))).alloc (.cells #[.int .u32 st, .slice none 0 0, .bool (bits .and .u8 fl 1 != 0)] 53 (0, 0))).cell? ⟨w.heap.size, 1, none⟩ = some (.int .u8 fl) := HF4.out.cell 1
  have f42 : ((w2.alloc (.cells #[.slice a2 m2 c2, .slice none 0 0, .int .u32 0, .int .u32 0, .int .u32 0] 49 (0, 0))).alloc (.cells #[.int .u32 st, .slice none 0 0, .bool (bits .and .u8 fl 1 != 0)] 53 (0, 0))).cell? ⟨w.heap.size, 2, none⟩ = some (.int .u32 st) := HF4.out.cell 2
  have f43 : ((w2.alloc (.cells #[.slice a2 m2 c2, .slice none 0 0, .int .u32 0, .int .u32 0, .int .u32 0] 49 (0, 0))).alloc (.cells #[.int .u32 st, .slice none 0 0, .bool (bits .and .u8 fl 1 != 0)] 53 (0, 0))).cell? ⟨w.heap.size, 3, none⟩ = some (.slice fa fn fc) := HF4.out.cell 3
  clear hb3 hn4 hbase hsize ho
  go_upto_region 12 with fail
  refine wp_named ?_
  intro w5 hw5
  clear f30 f31 f32 f33 f40 f41 f42 f43 e0 e1 e2 e3 e4 e5 n4 n5 n6 n7 n8 n9
  have K25 : Keeps (fun _ => False) w2 w5 := by
    rw [← hw5]
    exact ((Keeps.refl _ w2).alloc _).alloc _
  have HN5 : Hid (Blk w5 (w2.heap.size + 1) #[.int .u32 s.st, .slice a0 n0 c0, .bool s.fin] 53) := by
    show Blk _ _ _ _
    have h := Blk.new (w2.alloc (.cells #[.slice a2 m2 c2, .slice none 0 0, .int .u32 0, .int .u32 0, .int .u32 0] 49 (0, 0))) #[.int .u32 s.st, .slice a0 n0 c0, .bool s.fin] 53
    rw [World.size_alloc] at h
    rw [← hw5]; exact h
  have HP5 : Hid (Blk w5 w2.heap.size #[.slice a2 m2 c2, .slice none 0 0, .int .u32 0, .int .u32 0, .int .u32 0] 49) := by
    show Blk _ _ _ _
    rw [← hw5]; exact (Blk.new w2 #[.slice a2 m2 c2, .slice none 0 0, .int .u32 0, .int .u32 0, .int .u32 0] 49).alloc (.cells #[.int .u32 s.st, .slice a0 n0 c0, .bool s.fin] 53 (0, 0))
  have HS5 : Hid (w2.heap.size + 2 ≤ w5.heap.size) := by show _ ≤ _; rw [← hw5]; simp
  clear d0 d1 d2 hpz
  have HK25 := Lib.hid K25
  clear K25 hw5 HP4 HN4 HF3 HF4 HB4
  have c1 := HN5.out.cell 1
  have c2' := HP5.out.cell 0
  have c1' : w5.drew.cell? ⟨w2.heap.size + 1, 1, none⟩ = some (.slice a0 n0 c0) := c1
  have c3' : w5.drew.cell? ⟨w2.heap.size, 0, none⟩ = some (.slice a2 m2 c2) := c2'
  refine z_begin (fun w' => w'.cell? ⟨w2.heap.size + 1, 1, none⟩ = some (.slice a0 n0 c0) ∧ w'.cell? ⟨w2.heap.size, 0, none⟩ = some (.slice a2 m2 c2)) 7 (by kernel_rfl) ?_
  change wpAnyZ _ _ _ _ _ _ _ _ _ (World.drew _)
  have hS : (fun w' : World => w'.cell? ⟨w2.heap.size + 1, 1, none⟩ = some (.slice a0 n0 c0) ∧ w'.cell? ⟨w2.heap.size, 0, none⟩ = some (.slice a2 m2 c2)) w5.drew := ⟨c1', c3'⟩
  refine z_take (i := 0) (v := ?_) rfl (by kernel_rfl) (by kernel_rfl) (by kernel_rfl) (by kernel_rfl) (fun _ _ _ h => h) (Or.inl ⟨by kernel_rfl, ?_⟩) hS ?_
  rotate_left
  · intro wz ⟨_, _⟩; go_simp; try with_reducible rfl
  refine z_take (i := 1) (v := ?_) rfl (by kernel_rfl) (by kernel_rfl) (by kernel_rfl) (by kernel_rfl) (fun _ _ _ h => h) (Or.inl ⟨by kernel_rfl, ?_⟩) hS ?_
  rotate_left
  · intro wz ⟨_, _⟩; go_simp; try with_reducible rfl
  refine z_take (i := 3) (v := ?_) rfl (by kernel_rfl) (by kernel_rfl) (by kernel_rfl) (by kernel_rfl) (fun _ _ _ h => h) (Or.inl ⟨by kernel_rfl, ?_⟩) hS ?_
  rotate_left
  · intro wz ⟨_, _⟩; go_simp; try with_reducible rfl
  refine z_take (i := 4) (v := ?_) rfl (by kernel_rfl) (by kernel_rfl) (by kernel_rfl) (by kernel_rfl) (fun _ _ _ h => h) (Or.inl ⟨by kernel_rfl, ?_⟩) hS ?_
  rotate_left
  · intro wz ⟨_, _⟩; go_simp; try with_reducible rfl
  clear hS c1 c2' c1' c3'
  have KD : Keeps (fun _ => False) w5 w5.drew := (Keeps.refl _ w5).drew
  refine z_own (i := 2) rfl (by kernel_rfl) (by kernel_rfl) (.const (.slice none 0 0)) (.tmp 50) rfl w5.heap.size none 0 0 [] (by kernel_rfl) (Bo.nil _ _) a0 n0 c0 s.xs (by kernel_rfl) ((HA2.out.keep HK25.out (fun _ _ h => h)).keep KD (fun _ _ h => h)) (by omega) (Nat.le_refl _) ?_
  intro a6 c6 w6 ho6 hk6
  have K56 : Keeps (fun _ => False) w5 w6 := KD.trans hk6.noneK
  have HN6 := Lib.hid (K56.blk HN5.out (fun h => h))
  have HP6 := Lib.hid (K56.blk HP5.out (fun h => h))
  have HY6 := Lib.hid ((HY2.out.keep HK25.out (fun _ _ h => h)).keep K56 (fun _ _ h => h))
  refine ⟨⟨HN6.out.cell 1, HP6.out.cell 0⟩, ?_⟩
  refine z_own (i := 5) rfl (by kernel_rfl) (by kernel_rfl) (.tmp 51) (.tmp 53) rfl w5.heap.size a6 (0 + n0) c6 ([] ++ s.xs) (by kernel_rfl) ho6 a2 m2 c2 ys (by kernel_rfl) HY6.out (by have := HML.out; omega) K56.size ?_
  intro a7 c7 w7 ho7 hk7
  have HN7 := Lib.hid (hk7.blk HN6.out (mine_ge (by have := HS5.out; omega)))
  have HP7 := Lib.hid (hk7.blk HP6.out (mine_ge (by have := HS5.out; omega)))
  have K57 : Keeps (fun _ => False) w5 w7 := Keeps.mono (K56.to.trans hk7) (fun j hj hS => by have := hS.1; omega)
  refine ⟨⟨HN7.out.cell 1, HP7.out.cell 0⟩, ?_⟩
  have hS : (fun w' : World => w'.cell? ⟨w2.heap.size + 1, 1, none⟩ = some (.slice a0 n0 c0) ∧ w'.cell? ⟨w2.heap.size, 0, none⟩ = some (.slice a2 m2 c2)) w7 := ⟨HN7.out.cell 1, HP7.out.cell 0⟩
  refine z_take (i := 6) (v := ?_) rfl (by kernel_rfl) (by kernel_rfl) (by kernel_rfl) (by kernel_rfl) (fun _ _ _ h => h) (Or.inl ⟨by kernel_rfl, ?_⟩) hS ?_
  rotate_left
  · intro wz ⟨_, _⟩; go_simp; try with_reducible rfl
  clear hS
  obtain ⟨⟨n4, n5, n6⟩, n7, n8, n9⟩ := part_cells HN7.out
  have KP : Keeps (fun k => k = w2.heap.size + 1) w7 (w7.setCell ⟨w2.heap.size + 1, 1, none⟩ (.slice a7 (0 + n0 + m2) c7)) := (Keeps.refl _ w7).put 1 _
  have K28 : Keeps (fun _ => False) w2 (w7.setCell ⟨w2.heap.size + 1, 1, none⟩ (.slice a7 (0 + n0 + m2) c7)) := (HK25.out.trans K57).setCell (fun h => by simp at h; omega) _
  have HN8 : Hid (Blk (w7.setCell ⟨w2.heap.size + 1, 1, none⟩ (.slice a7 (0 + n0 + m2) c7)) (w2.heap.size + 1) #[.int .u32 s.st, .slice a7 (0 + n0 + m2) c7, .bool s.fin] 53) := (HN7.out.set 1 _).as rfl
  have HX8 := Lib.hid (ho7.by.keep KP (fun b' hb' e => by have := (ho7.ge b' hb').1; have := HS5.out; omega))
  have HG8 : Hid (∀ b', a7.map (·.block) = some b' → w5.heap.size ≤ b' ∧ b' < w7.heap.size) := fun b' hb' => ho7.ge b' hb'
  have HZ8 : Hid (w5.heap.size ≤ w7.heap.size) := K57.size
  refine z_last (w7.setCell ⟨w2.heap.size + 1, 1, none⟩ (.slice a7 (0 + n0 + m2) c7)) rfl (by kernel_rfl) (by kernel_rfl) ?_ (by kernel_rfl) ?_
  · go_simp; try with_reducible rfl
  clear n4 n5 n6 n7 n8 n9 KP K56 K57 KD hk6 hk7 ho6 ho7
  have HK28 := Lib.hid K28
  have HS8 : Hid ((w7.setCell ⟨w2.heap.size + 1, 1, none⟩ (.slice a7 (0 + n0 + m2) c7)).heap.size = w7.heap.size) := by show _ = _; simp
  clear K28
  generalize w7.setCell ⟨w2.heap.size + 1, 1, none⟩ (.slice a7 (0 + n0 + m2) c7) = w8 at *
  have HB8 := Lib.hid (HK28.out.blk HB2b.out (fun h => h))
  have HF8 := Lib.hid (HK28.out.blk HF2.out (fun h => h))
  have HK8 := Lib.hid (HK2.out.trans HK28.out)
  have HPK8 := Lib.hid (HB2.out.keep HK28.out (fun _ h => False.elim h) (fun h => h))
  clear HN5 HP5 HN6 HP6 HY6 HN7 HP7
  obtain ⟨⟨e0, e1, e2⟩, e3, e4, e5⟩ := part_cells HB8.out
  obtain ⟨⟨n4, n5, n6⟩, _⟩ := part_cells HN8.out
  have f80 : w8.cell? ⟨w.heap.size, 0, none⟩ = some (.int .u8 t) := HF8.out.cell 0
  have f81 : w8.cell? ⟨w.heap.size, 1, none⟩ = some (.int .u8 fl) := HF8.out.cell 1
  have f82 : w8.cell? ⟨w.heap.size, 2, none⟩ = some (.int .u32 st) := HF8.out.cell 2
  have f83 : w8.cell? ⟨w.heap.size, 3, none⟩ = some (.slice fa fn fc) := HF8.out.cell 3
  have hlen : (s.ys t fl xs).length = (0 + n0 + m2) := by
    have h1 := HX8.out.1
    have h2 : s.ys t fl xs = s.xs ++ ys := by unfold Bk.ys; rw [HYS.out, if_pos HO.out]
    rw [h2]
    simp only [List.nil_append, List.length_append, List.length_nil, Nat.zero_add] at h1 ⊢
    omega
  have hys : s.ys t fl xs = (([] ++ s.xs) ++ ys) := by unfold Bk.ys; rw [HYS.out, if_pos HO.out]; simp
  generalize hN : (0 + n0 + m2) = N at *
  have HLEN := Lib.hid hlen
  have HYS2 := Lib.hid hys
  have HN := Lib.hid hN
  clear hlen hys hN
  refine then_named fun b9 hb9 => ?_
  subst hb9
  by_cases hfl : s.most < (N : Int)
  · have HR : Hid (s.done t fl st xs = false ∧ s.rule t fl st xs = 3 ∧ s.add t fl st xs = s) := by
      have hlt : s.most < ((s.ys t fl xs).length : Int) := by rw [HLEN.out]; exact hfl
      exact ⟨(add_not (takes_long hlt)).2, by unfold Bk.rule; rw [if_neg (by rw [HM.out]; simp), if_neg (by rw [HY.out]; simp), if_neg (by rw [HQ.out]; simp), if_pos hlt], (add_not (takes_long hlt)).1⟩
    have hfd : decide (s.most < (N : Int)) = true := by simpa using hfl
    go_wp2_with fail
    go_quiet (fail)
    go_wp2_with fail
    go_returns
    exact ⟨by rw [HR.out.1, HR.out.2.1]; rfl, by rw [HR.out.2.2]; exact HPK8.out.keep ((Keeps.refl _ w8).drewN _) (fun _ h => False.elim h) (fun h => h), (HK8.out.drewN _).to⟩
  · have hfd : decide (s.most < (N : Int)) = false := by simpa using hfl
    have htk : s.takes t fl st xs = true := takes_yes HM.out HY.out HQ.out (by rw [HLEN.out]; exact hfl)
    have HADD : Hid (s.add t fl st xs = s.next t fl st xs) := by show _ = _; unfold Bk.add; rw [if_pos htk]
    have HDN : Hid (s.done t fl st xs = lastB fl) := by show _ = _; unfold Bk.done; rw [htk]; rfl
    have HRL : Hid (s.rule t fl st xs = 0) := by show _ = _; unfold Bk.rule; rw [if_neg (by rw [HM.out]; simp), if_neg (by rw [HY.out]; simp), if_neg (by rw [HQ.out]; simp), if_neg (by rw [HLEN.out]; exact hfl)]
    have HNX : Hid (Blk w8 (w2.heap.size + 1) #[.int .u32 (s.next t fl st xs).st, .slice a7 N c7, .bool (s.next t fl st xs).fin] 53 ∧ By w8 a7 N c7 (s.next t fl st xs).xs) := by
      refine ⟨?_, ?_⟩
      · show Blk w8 _ #[.int .u32 (if s.opn then s.st else st), .slice a7 N c7, .bool (if s.opn then s.fin else finB fl)] _
        rw [if_pos HO.out, if_pos HO.out]
        exact HN8.out
      · show By w8 a7 N c7 (s.ys t fl xs)
        rw [HYS2.out]
        exact HX8.out
    clear htk hfl
    by_cases hla : lastB fl = true
    · have hl4 : (bits .and .u8 fl 4 == 0) = false := by unfold lastB at hla; simpa using hla
      go_wp2_with fail
      go_quiet (fail)
      go_wp2_with fail
      go_returns
      exact fin_last HADD.out HDN.out HRL.out hla HBS.out HB2.out.2.1 HS5.out HZ8.out HS8.out HNX.out HG8.out HK8.out hbb (by exact ((((HB8.out.drewN _).set 1 _).set 2 _).as rfl)) (by exact ((((Keeps.refl _ w8).drewN _).put 1 _).put 2 _))
    · have hl4 : (bits .and .u8 fl 4 == 0) = true := by unfold lastB at hla; simpa using hla
      go_wp2_with fail
      go_quiet (fail)
      go_wp2_with fail
      go_returns
      exact fin_more HADD.out HDN.out HRL.out (by simpa using hla) HBS.out HB2.out.2.1 HS5.out HZ8.out HS8.out HNX.out HG8.out HK8.out hbb (by exact (((HB8.out.drewN _).set 1 _).as rfl)) (by exact (((Keeps.refl _ w8).drewN _).put 1 _))

set_option maxRecDepth 100000 in
set_option maxHeartbeats 3200000 in
theorem add_new (base b : Nat) (s : Bk) (t fl st : Int) (fa : Option Addr) (fn fc : Nat) (xs : List UInt8) (w : World) (hb : PkM base w b s) (hs : s.Ok) (hx : By w fa fn fc xs) (hn : fn ≤ 1000000) (hm : s.may t st = true) (hy : s.says t = true) (hq : payQ t fl st xs = 0) (ho : s.opn = false) :
    Calls Try.prog 8 #[.pointer (some ⟨b, 0, none⟩), FrV t fl st fa fn fc] w (AdP base b s t fl st xs w) := by
  have hk0 : Keeps (fun _ => False) w (w.alloc (.cells #[.int .u8 t, .int .u8 fl, .int .u32 st, .slice fa fn fc] 33 (0, 0))) := (Keeps.refl _ w).alloc _
  have HB0 := Lib.hid (hb.keep hk0 (fun _ h => False.elim h) (fun h => h))
  have HK0 := Lib.hid hk0
  have HF0 := Lib.hid (Blk.new w #[.int .u8 t, .int .u8 fl, .int .u32 st, .slice fa fn fc] 33)
  have HX := Lib.hid hx
  have hbb : b < w.heap.size := Nat.lt_of_lt_of_le hb.1 hb.2.1
  clear hk0 hb hx
  have HM := Lib.hid hm
  have HY := Lib.hid hy
  have HT := Lib.hid (may_types hm hy)
  have HQ := Lib.hid hq
  have HO := Lib.hid ho
  have HOK := Lib.hid hs
  clear hm hy hs
  unfold FrV at *
  go_enter Try.func8, Try.ntmps8
  go_wp2_with fail
  refine (comes_any base b s t fl st fa fn fc _ HB0.out).mono ?_
  rintro e w1 ⟨rfl, hk1⟩
  have hk1' := HK0.out.trans (below_no hk1)
  have HB1 := Lib.hid (HB0.out.keep (below_no hk1) (fun _ h => False.elim h) (fun h => h))
  have HF1 := Lib.hid ((below_no hk1).blk HF0.out (fun h => h))
  have HK1 := Lib.hid hk1'
  rw [HM.out, HY.out]
  clear hk1 hk1'
  have f10 : w1.cell? ⟨w.heap.size, 0, none⟩ = some (.int .u8 t) := HF1.out.cell 0
  have f11 : w1.cell? ⟨w.heap.size, 1, none⟩ = some (.int .u8 fl) := HF1.out.cell 1
  have f12 : w1.cell? ⟨w.heap.size, 2, none⟩ = some (.int .u32 st) := HF1.out.cell 2
  have f13 : w1.cell? ⟨w.heap.size, 3, none⟩ = some (.slice fa fn fc) := HF1.out.cell 3
  have HX1 := Lib.hid (HX.out.keep HK1.out (fun _ _ h => h))
  go_wp2_with fail
  refine (pay_any t fl st fa fn fc xs w1 HX1.out hn HT.out).mono ?_
  rintro e w2 ⟨a2, m2, c2, ys, rfl, hy2, hq2, hg2, hk2⟩
  have hk2' := HK1.out.trans (below_no hk2)
  have HB2 := Lib.hid (HB1.out.keep (below_no hk2) (fun _ h => False.elim h) (fun h => h))
  have HF2 := Lib.hid ((below_no hk2).blk HF1.out (fun h => h))
  have HK2 := Lib.hid hk2'
  have HY2 := Lib.hid hy2
  have HS2 : Hid (w.heap.size < w2.heap.size) := by have := hk2'.size; have h := HF2.out.lt; exact h
  clear hk2 hk2' hy2 f10 f11 f12 f13
  unfold PyV
  have HYS := Lib.hid (hq2 hq)
  have HML : Hid (m2 ≤ fn) := by
    show m2 ≤ fn
    have h1 := HY2.out.1
    have h2 := HX.out.1
    have h3 := payX_le t fl xs
    rw [HYS.out] at h1
    omega
  rw [hq]
  clear hq2 hg2 hq
  obtain ⟨hbase, hsize, o, u, hb3, hbo, hbu⟩ := HB2.out
  rw [if_neg (by rw [ho]; simp)] at hbo
  subst hbo
  have HA2 : Hid (By w2 none 0 0 []) := By.nil w2
  clear hbu
  have HB2b := Lib.hid hb3
  have HBS := Lib.hid hbase
  have HB4 := Lib.hid ((hb3.alloc (.cells #[.slice a2 m2 c2, .slice none 0 0, .int .u32 0, .int .u32 0, .int .u32 0] 49 (0, 0))).alloc (.cells #[.int .u32 st, .slice none 0 0, .bool (bits .and .u8 fl 1 != 0)] 53 (0, 0)))
  have HF3 := Lib.hid (HF2.out.alloc (.cells #[.slice a2 m2 c2, .slice none 0 0, .int .u32 0, .int .u32 0, .int .u32 0] 49 (0, 0)))
  have HF4 := Lib.hid (HF3.out.alloc (.cells #[.int .u32 st, .slice none 0 0, .bool (bits .and .u8 fl 1 != 0)] 53 (0, 0)))
  have HP4 := Lib.hid ((Blk.new w2 #[.slice a2 m2 c2, .slice none 0 0, .int .u32 0, .int .u32 0, .int .u32 0] 49).alloc (.cells #[.int .u32 st, .slice none 0 0, .bool (bits .and .u8 fl 1 != 0)] 53 (0, 0)))
  have hn4 := Blk.new (w2.alloc (.cells #[.slice a2 m2 c2, .slice none 0 0, .int .u32 0, .int .u32 0, .int .u32 0] 49 (0, 0))) #[.int .u32 st, .slice none 0 0, .bool (bits .and .u8 fl 1 != 0)] 53
  rw [World.size_alloc] at hn4
  have HN4 := Lib.hid hn4
  obtain ⟨⟨e0, e1, e2⟩, e3, e4, e5⟩ := part_cells HB4.out
  obtain ⟨⟨n4, n5, n6⟩, n7, n8, n9⟩ := part_cells hn4
  have f30 : (w2.alloc (.cells #[.slice a2 m2 c2, .slice none 0 0, .int .u32 0, .int .u32 0, .int .u32 0] 49 (0, 0))).cell? ⟨w.heap.size, 0, none⟩ = some (.int .u8 t) := HF3.out.cell 0
  have f31 : (w2.alloc (.cells #[.slice a2 m2 c2, .slice none 0 0, .int .u32 0, .int .u32 0, .int .u32 0] 49 (0, 0))).cell? ⟨w.heap.size, 1, none⟩ = some (.int .u8 fl) := HF3.out.cell 1
  have f32 : (w2.alloc (.cells #[.slice a2 m2 c2, .slice none 0 0, .int .u32 0, .int .u32 0, .int .u32 0] 49 (0, 0))).cell? ⟨w.heap.size, 2, none⟩ = some (.int .u32 st) := HF3.out.cell 2
  have f33 : (w2.alloc (.cells #[.slice a2 m2 c2, .slice none 0 0, .int .u32 0, .int .u32 0, .int .u32 0] 49 (0, 0))).cell? ⟨w.heap.size, 3, none⟩ = some (.slice fa fn fc) := HF3.out.cell 3
  have f40 : ((w2.alloc (.cells #[.slice a2 m2 c2, .slice none 0 0, .int .u32 0, .int .u32 0, .int .u32 0] 49 (0, 0))).alloc (.cells #[.int .u32 st, .slice none 0 0, .bool (bits .and .u8 fl 1 != 0)] 53 (0, 0))).cell? ⟨w.heap.size, 0, none⟩ = some (.int .u8 t) := HF4.out.cell 0
  have f41 : ((w2.alloc (.cells #[.slice a2 m2 c2, .slice none 0 0, .int .u32 0, .int .u32 0, .int .u32 0] 49 (0, 0))).alloc (.cells #[.int .u32 st, .slice none 0 0, .bool (bits .and .u8 fl 1 != 0)] 53 (0, 0))).cell? ⟨w.heap.size, 1, none⟩ = some (.int .u8 fl) := HF4.out.cell 1
  have f42 : ((w2.alloc (.cells #[.slice a2 m2 c2, .slice none 0 0, .int .u32 0, .int .u32 0, .int .u32 0] 49 (0, 0))).alloc (.cells #[.int .u32 st, .slice none 0 0, .bool (bits .and .u8 fl 1 != 0)] 53 (0, 0))).cell? ⟨w.heap.size, 2, none⟩ = some (.int .u32 st) := HF4.out.cell 2
  have f43 : ((w2.alloc (.cells #[.slice a2 m2 c2, .slice none 0 0, .int .u32 0, .int .u32 0, .int .u32 0] 49 (0, 0))).alloc (.cells #[.int .u32 st, .slice none 0 0, .bool (bits .and .u8 fl 1 != 0)] 53 (0, 0))).cell? ⟨w.heap.size, 3, none⟩ = some (.slice fa fn fc) := HF4.out.cell 3
  clear hb3 hn4 hbase hsize ho
  go_upto_region 12 with fail
  refine wp_named ?_
  intro w5 hw5
  clear f30 f31 f32 f33 f40 f41 f42 f43 e0 e1 e2 e3 e4 e5 n4 n5 n6 n7 n8 n9
  have K25 : Keeps (fun _ => False) w2 w5 := by
    rw [← hw5]
    exact ((Keeps.refl _ w2).alloc _).alloc _
  have HN5 : Hid (Blk w5 (w2.heap.size + 1) #[.int .u32 st, .slice none 0 0, .bool (bits .and .u8 fl 1 != 0)] 53) := by
    show Blk _ _ _ _
    have h := Blk.new (w2.alloc (.cells #[.slice a2 m2 c2, .slice none 0 0, .int .u32 0, .int .u32 0, .int .u32 0] 49 (0, 0))) #[.int .u32 st, .slice none 0 0, .bool (bits .and .u8 fl 1 != 0)] 53
    rw [World.size_alloc] at h
    rw [← hw5]; exact h
  have HP5 : Hid (Blk w5 w2.heap.size #[.slice a2 m2 c2, .slice none 0 0, .int .u32 0, .int .u32 0, .int .u32 0] 49) := by
    show Blk _ _ _ _
    rw [← hw5]; exact (Blk.new w2 #[.slice a2 m2 c2, .slice none 0 0, .int .u32 0, .int .u32 0, .int .u32 0] 49).alloc (.cells #[.int .u32 st, .slice none 0 0, .bool (bits .and .u8 fl 1 != 0)] 53 (0, 0))
  have HS5 : Hid (w2.heap.size + 2 ≤ w5.heap.size) := by show _ ≤ _; rw [← hw5]; simp
  have HK25 := Lib.hid K25
  clear K25 hw5 HP4 HN4 HF3 HF4 HB4
  have c1 := HN5.out.cell 1
  have c2' := HP5.out.cell 0
  have c1' : w5.drew.cell? ⟨w2.heap.size + 1, 1, none⟩ = some (.slice none 0 0) := c1
  have c3' : w5.drew.cell? ⟨w2.heap.size, 0, none⟩ = some (.slice a2 m2 c2) := c2'
  refine z_begin (fun w' => w'.cell? ⟨w2.heap.size + 1, 1, none⟩ = some (.slice none 0 0) ∧ w'.cell? ⟨w2.heap.size, 0, none⟩ = some (.slice a2 m2 c2)) 7 (by kernel_rfl) ?_
  change wpAnyZ _ _ _ _ _ _ _ _ _ (World.drew _)
  have hS : (fun w' : World => w'.cell? ⟨w2.heap.size + 1, 1, none⟩ = some (.slice none 0 0) ∧ w'.cell? ⟨w2.heap.size, 0, none⟩ = some (.slice a2 m2 c2)) w5.drew := ⟨c1', c3'⟩
  refine z_take (i := 0) (v := ?_) rfl (by kernel_rfl) (by kernel_rfl) (by kernel_rfl) (by kernel_rfl) (fun _ _ _ h => h) (Or.inl ⟨by kernel_rfl, ?_⟩) hS ?_
  rotate_left
  · intro wz ⟨_, _⟩; go_simp; try with_reducible rfl
  refine z_take (i := 1) (v := ?_) rfl (by kernel_rfl) (by kernel_rfl) (by kernel_rfl) (by kernel_rfl) (fun _ _ _ h => h) (Or.inl ⟨by kernel_rfl, ?_⟩) hS ?_
  rotate_left
  · intro wz ⟨_, _⟩; go_simp; try with_reducible rfl
  refine z_take (i := 3) (v := ?_) rfl (by kernel_rfl) (by kernel_rfl) (by kernel_rfl) (by kernel_rfl) (fun _ _ _ h => h) (Or.inl ⟨by kernel_rfl, ?_⟩) hS ?_
  rotate_left
  · intro wz ⟨_, _⟩; go_simp; try with_reducible rfl
  refine z_take (i := 4) (v := ?_) rfl (by kernel_rfl) (by kernel_rfl) (by kernel_rfl) (by kernel_rfl) (fun _ _ _ h => h) (Or.inl ⟨by kernel_rfl, ?_⟩) hS ?_
  rotate_left
  · intro wz ⟨_, _⟩; go_simp; try with_reducible rfl
  clear hS c1 c2' c1' c3'
  have KD : Keeps (fun _ => False) w5 w5.drew := (Keeps.refl _ w5).drew
  refine z_own (i := 2) rfl (by kernel_rfl) (by kernel_rfl) (.const (.slice none 0 0)) (.tmp 50) rfl w5.heap.size none 0 0 [] (by kernel_rfl) (Bo.nil _ _) none 0 0 [] (by kernel_rfl) ((HA2.out.keep HK25.out (fun _ _ h => h)).keep KD (fun _ _ h => h)) (by omega) (Nat.le_refl _) ?_
  intro a6 c6 w6 ho6 hk6
  have K56 : Keeps (fun _ => False) w5 w6 := KD.trans hk6.noneK
  have HN6 := Lib.hid (K56.blk HN5.out (fun h => h))
  have HP6 := Lib.hid (K56.blk HP5.out (fun h => h))
  have HY6 := Lib.hid ((HY2.out.keep HK25.out (fun _ _ h => h)).keep K56 (fun _ _ h => h))
  refine ⟨⟨HN6.out.cell 1, HP6.out.cell 0⟩, ?_⟩
  refine z_own (i := 5) rfl (by kernel_rfl) (by kernel_rfl) (.tmp 51) (.tmp 53) rfl w5.heap.size a6 (0 + 0) c6 ([] ++ []) (by kernel_rfl) ho6 a2 m2 c2 ys (by kernel_rfl) HY6.out (by have := HML.out; omega) K56.size ?_
  intro a7 c7 w7 ho7 hk7
  have HN7 := Lib.hid (hk7.blk HN6.out (mine_ge (by have := HS5.out; omega)))
  have HP7 := Lib.hid (hk7.blk HP6.out (mine_ge (by have := HS5.out; omega)))
  have K57 : Keeps (fun _ => False) w5 w7 := Keeps.mono (K56.to.trans hk7) (fun j hj hS => by have := hS.1; omega)
  refine ⟨⟨HN7.out.cell 1, HP7.out.cell 0⟩, ?_⟩
  have hS : (fun w' : World => w'.cell? ⟨w2.heap.size + 1, 1, none⟩ = some (.slice none 0 0) ∧ w'.cell? ⟨w2.heap.size, 0, none⟩ = some (.slice a2 m2 c2)) w7 := ⟨HN7.out.cell 1, HP7.out.cell 0⟩
  refine z_take (i := 6) (v := ?_) rfl (by kernel_rfl) (by kernel_rfl) (by kernel_rfl) (by kernel_rfl) (fun _ _ _ h => h) (Or.inl ⟨by kernel_rfl, ?_⟩) hS ?_
  rotate_left
  · intro wz ⟨_, _⟩; go_simp; try with_reducible rfl
  clear hS
  obtain ⟨⟨n4, n5, n6⟩, n7, n8, n9⟩ := part_cells HN7.out
  have KP : Keeps (fun k => k = w2.heap.size + 1) w7 (w7.setCell ⟨w2.heap.size + 1, 1, none⟩ (.slice a7 (0 + 0 + m2) c7)) := (Keeps.refl _ w7).put 1 _
  have K28 : Keeps (fun _ => False) w2 (w7.setCell ⟨w2.heap.size + 1, 1, none⟩ (.slice a7 (0 + 0 + m2) c7)) := (HK25.out.trans K57).setCell (fun h => by simp at h; omega) _
  have HN8 : Hid (Blk (w7.setCell ⟨w2.heap.size + 1, 1, none⟩ (.slice a7 (0 + 0 + m2) c7)) (w2.heap.size + 1) #[.int .u32 st, .slice a7 (0 + 0 + m2) c7, .bool (bits .and .u8 fl 1 != 0)] 53) := (HN7.out.set 1 _).as rfl
  have HX8 := Lib.hid (ho7.by.keep KP (fun b' hb' e => by have := (ho7.ge b' hb').1; have := HS5.out; omega))
  have HG8 : Hid (∀ b', a7.map (·.block) = some b' → w5.heap.size ≤ b' ∧ b' < w7.heap.size) := fun b' hb' => ho7.ge b' hb'
  have HZ8 : Hid (w5.heap.size ≤ w7.heap.size) := K57.size
  refine z_last (w7.setCell ⟨w2.heap.size + 1, 1, none⟩ (.slice a7 (0 + 0 + m2) c7)) rfl (by kernel_rfl) (by kernel_rfl) ?_ (by kernel_rfl) ?_
  · go_simp; try with_reducible rfl
  clear n4 n5 n6 n7 n8 n9 KP K56 K57 KD hk6 hk7 ho6 ho7
  have HK28 := Lib.hid K28
  have HS8 : Hid ((w7.setCell ⟨w2.heap.size + 1, 1, none⟩ (.slice a7 (0 + 0 + m2) c7)).heap.size = w7.heap.size) := by show _ = _; simp
  clear K28
  generalize w7.setCell ⟨w2.heap.size + 1, 1, none⟩ (.slice a7 (0 + 0 + m2) c7) = w8 at *
  have HB8 := Lib.hid (HK28.out.blk HB2b.out (fun h => h))
  have HF8 := Lib.hid (HK28.out.blk HF2.out (fun h => h))
  have HK8 := Lib.hid (HK2.out.trans HK28.out)
  have HPK8 := Lib.hid (HB2.out.keep HK28.out (fun _ h => False.elim h) (fun h => h))
  clear HN5 HP5 HN6 HP6 HY6 HN7 HP7
  obtain ⟨⟨e0, e1, e2⟩, e3, e4, e5⟩ := part_cells HB8.out
  obtain ⟨⟨n4, n5, n6⟩, _⟩ := part_cells HN8.out
  have f80 : w8.cell? ⟨w.heap.size, 0, none⟩ = some (.int .u8 t) := HF8.out.cell 0
  have f81 : w8.cell? ⟨w.heap.size, 1, none⟩ = some (.int .u8 fl) := HF8.out.cell 1
  have f82 : w8.cell? ⟨w.heap.size, 2, none⟩ = some (.int .u32 st) := HF8.out.cell 2
  have f83 : w8.cell? ⟨w.heap.size, 3, none⟩ = some (.slice fa fn fc) := HF8.out.cell 3
  have hlen : (s.ys t fl xs).length = (0 + 0 + m2) := by
    have h1 := HX8.out.1
    have h2 : s.ys t fl xs = [] ++ ys := by unfold Bk.ys; rw [HYS.out, if_neg (by rw [HO.out]; simp)]
    rw [h2]
    simp only [List.nil_append, List.length_append, List.length_nil, Nat.zero_add] at h1 ⊢
    omega
  have hys : s.ys t fl xs = (([] ++ []) ++ ys) := by unfold Bk.ys; rw [HYS.out, if_neg (by rw [HO.out]; simp)]; simp
  generalize hN : (0 + 0 + m2) = N at *
  have HLEN := Lib.hid hlen
  have HYS2 := Lib.hid hys
  have HN := Lib.hid hN
  clear hlen hys hN
  refine then_named fun b9 hb9 => ?_
  subst hb9
  by_cases hfl : s.most < (N : Int)
  · have HR : Hid (s.done t fl st xs = false ∧ s.rule t fl st xs = 3 ∧ s.add t fl st xs = s) := by
      have hlt : s.most < ((s.ys t fl xs).length : Int) := by rw [HLEN.out]; exact hfl
      exact ⟨(add_not (takes_long hlt)).2, by unfold Bk.rule; rw [if_neg (by rw [HM.out]; simp), if_neg (by rw [HY.out]; simp), if_neg (by rw [HQ.out]; simp), if_pos hlt], (add_not (takes_long hlt)).1⟩
    have hfd : decide (s.most < (N : Int)) = true := by simpa using hfl
    go_wp2_with fail
    go_quiet (fail)
    go_wp2_with fail
    go_returns
    exact ⟨by rw [HR.out.1, HR.out.2.1]; rfl, by rw [HR.out.2.2]; exact HPK8.out.keep ((Keeps.refl _ w8).drewN _) (fun _ h => False.elim h) (fun h => h), (HK8.out.drewN _).to⟩
  · have hfd : decide (s.most < (N : Int)) = false := by simpa using hfl
    have htk : s.takes t fl st xs = true := takes_yes HM.out HY.out HQ.out (by rw [HLEN.out]; exact hfl)
    have HADD : Hid (s.add t fl st xs = s.next t fl st xs) := by show _ = _; unfold Bk.add; rw [if_pos htk]
    have HDN : Hid (s.done t fl st xs = lastB fl) := by show _ = _; unfold Bk.done; rw [htk]; rfl
    have HRL : Hid (s.rule t fl st xs = 0) := by show _ = _; unfold Bk.rule; rw [if_neg (by rw [HM.out]; simp), if_neg (by rw [HY.out]; simp), if_neg (by rw [HQ.out]; simp), if_neg (by rw [HLEN.out]; exact hfl)]
    have HNX : Hid (Blk w8 (w2.heap.size + 1) #[.int .u32 (s.next t fl st xs).st, .slice a7 N c7, .bool (s.next t fl st xs).fin] 53 ∧ By w8 a7 N c7 (s.next t fl st xs).xs) := by
      refine ⟨?_, ?_⟩
      · show Blk w8 _ #[.int .u32 (if s.opn then s.st else st), .slice a7 N c7, .bool (if s.opn then s.fin else finB fl)] _
        rw [if_neg (by rw [HO.out]; simp), if_neg (by rw [HO.out]; simp)]
        exact HN8.out
      · show By w8 a7 N c7 (s.ys t fl xs)
        rw [HYS2.out]
        exact HX8.out
    clear htk hfl
    by_cases hla : lastB fl = true
    · have hl4 : (bits .and .u8 fl 4 == 0) = false := by unfold lastB at hla; simpa using hla
      go_wp2_with fail
      go_quiet (fail)
      go_wp2_with fail
      go_returns
      exact fin_last HADD.out HDN.out HRL.out hla HBS.out HB2.out.2.1 HS5.out HZ8.out HS8.out HNX.out HG8.out HK8.out hbb (by exact (((((HB8.out.drewN _).set 2 _).set 1 _).set 2 _).as rfl)) (by exact (((((Keeps.refl _ w8).drewN _).put 2 _).put 1 _).put 2 _))
    · have hl4 : (bits .and .u8 fl 4 == 0) = true := by unfold lastB at hla; simpa using hla
      go_wp2_with fail
      go_quiet (fail)
      go_wp2_with fail
      go_returns
      exact fin_more HADD.out HDN.out HRL.out (by simpa using hla) HBS.out HB2.out.2.1 HS5.out HZ8.out HS8.out HNX.out HG8.out HK8.out hbb (by exact ((((HB8.out.drewN _).set 2 _).set 1 _).as rfl)) (by exact ((((Keeps.refl _ w8).drewN _).put 2 _).put 1 _))

theorem add_any (base b : Nat) (s : Bk) (t fl st : Int) (fa : Option Addr) (fn fc : Nat) (xs : List UInt8) (w : World) (hb : PkM base w b s) (hs : s.Ok) (hx : By w fa fn fc xs) (hn : fn ≤ 1000000) :
    Calls Try.prog 8 #[.pointer (some ⟨b, 0, none⟩), FrV t fl st fa fn fc] w (AdP base b s t fl st xs w) := by
  cases hm : s.may t st with
  | false => exact add_may base b s t fl st fa fn fc xs w hb hs hx hn hm
  | true =>
    cases hy : s.says t with
    | false => exact add_says base b s t fl st fa fn fc xs w hb hs hx hn hm hy
    | true =>
      by_cases hq : payQ t fl st xs = 0
      · cases ho : s.opn with
        | true => exact add_open base b s t fl st fa fn fc xs w hb hs hx hn hm hy hq ho
        | false => exact add_new base b s t fl st fa fn fc xs w hb hs hx hn hm hy hq ho
      · exact add_bad base b s t fl st fa fn fc xs w hb hs hx hn hm hy hq

end Go.Proofs.Ytcfljnlfikkhaaa
