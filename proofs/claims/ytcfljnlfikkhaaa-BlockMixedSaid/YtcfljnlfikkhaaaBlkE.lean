/- Add and Take of the document's blocks. -/
import Derived.Test.YtcfljnlfikkhaaaBlkD
import Derived.Test.YtcfljnlfikkhaaaBlkS
namespace Go.Proofs.Ytcfljnlfikkhaaa
open Go.RowKit Go.Deep

theorem six_cells {w : World} {b : Nat} {v0 v1 v2 v3 v4 v5 : Value} {t : TypeId} (h : Blk w b #[v0, v1, v2, v3, v4, v5] t) :
    (w.cell? ⟨b, 0, none⟩ = some v0 ∧ w.cell? ⟨b, 1, none⟩ = some v1 ∧ w.cell? ⟨b, 2, none⟩ = some v2 ∧ w.cell? ⟨b, 3, none⟩ = some v3 ∧ w.cell? ⟨b, 4, none⟩ = some v4 ∧ w.cell? ⟨b, 5, none⟩ = some v5) ∧
    (w.frozen? ⟨b, 0, none⟩ = false ∧ w.frozen? ⟨b, 1, none⟩ = false ∧ w.frozen? ⟨b, 2, none⟩ = false ∧ w.frozen? ⟨b, 3, none⟩ = false ∧ w.frozen? ⟨b, 4, none⟩ = false ∧ w.frozen? ⟨b, 5, none⟩ = false) :=
  ⟨⟨h.cell 0, h.cell 1, h.cell 2, h.cell 3, h.cell 4, h.cell 5⟩, h.free 0, h.free 1, h.free 2, h.free 3, h.free 4, h.free 5⟩

theorem By.tight {w : World} {a : Option Addr} {n cap : Nat} {xs : List UInt8} (h : By w a n cap xs) : By w a n n xs :=
  ⟨h.1, Nat.le_refl _, Nat.le_trans h.2.le h.2.max, h.2.len, h.2.at_⟩

section
variable {ops : Array Oper} {Q : Exit → Act → World → Prop} {md : Region.Mode} {S : World → Prop}
/-- append on bytes whose room is full. -/
theorem held_full {i : Nat} {o : Oper} {fuel : Nat} {listed : Array Bool} {ac : Act} {w : World} (ho : ops[i]? = some o) (hr : Region.ready md ops listed = [i]) (hw : Region.wanted o (yielded ops ac.tmps) = true)
    (s x : Operand) (hop : o.op = Op.call { callee := Callee.builtin Builtin.append, args := #[s, x], argTypes := #[29, 29] })
    (a : Option Addr) (n : Nat) (xs : List UInt8) (hs : ac.eval s = .slice a n n) (hd : By w a n n xs) (a1 : Option Addr) (m c1 : Nat) (ys : List UInt8) (hx : ac.eval x = .slice a1 m c1) (hy : By w a1 m c1 ys)
    (b1 : n + m ≤ 140737488355328)
    (hK : ∀ a' cap' w', By w' a' (n + m) cap' (xs ++ ys) → Keeps (fun _ => False) w w' → (∀ b, a'.map (·.block) = some b → a.map (·.block) = some b ∨ (w.heap.size ≤ b ∧ b < w'.heap.size)) →
        S w' ∧ wpAnyH Try.prog md ops Q S fuel (listed.setIfInBounds i true) (ac.put o.dst (.slice a' (n + m) cap')) w') : wpAnyH Try.prog md ops Q S (fuel + 1) listed ac w := by
  obtain ⟨inf, hi, hz, hs1, hs2⟩ := info_parts info8
  have hm : m = ys.length := hy.1
  refine held_app ho hr hw s x 29 29 hop w.heap.size 5 inf _ 1 1 Try.underlying29 hi hz hs1 hs2 rfl a n n (Bs xs) hs (.inr ⟨rfl, hd.2⟩) (.slice a1 m c1) hx m (Bs ys) (hy.2.src Try.underlying29 (Bs_one ys)) (by simp only [maxLen]; omega) (by omega) (Nat.le_refl _) ?_
  intro a' cap' w' h0 hk hn h1 h2
  rw [Bs_append] at h0
  have hb : By w' a' (n + m) cap' (xs ++ ys) := ⟨by rw [List.length_append, ← hd.1, hm], h0.vw⟩
  refine hK a' cap' w' hb (hk.mono (fun k h3 h4 => by have := h4.1; omega)) ?_
  intro b hbb
  by_cases hm0 : 0 < m
  · exact .inr ((h1 hm0).lt b (by cases a' with | none => cases hbb | some a => simpa [Value.ownBlock] using hbb))
  · obtain ⟨_, rfl, rfl⟩ := h2 (by omega)
    exact .inl hbb
end

/-- What the document's Add does. -/
def RdP (base b : Nat) (s : Bk) (t fl st : Int) (xs : List UInt8) (w : World) (e : Ending) (w' : World) : Prop :=
  e = .returned (.tuple #[.bool (s.done t fl st xs), .int .i64 (s.rule t fl st xs)]) ∧ RkM base w' b (s.add t fl st xs) ∧ Keeps (fun k => k = b) w w'

theorem rtake_any (base : Nat) (b : Nat) (s : Bk) (w : World) (hb : RkM base w b s) (hs : s.Ok) :
    Calls Try.prog 12 #[.pointer (some ⟨b, 0, none⟩)] w fun e w' => TkP base s w e w' ∧ RkM base w' b s.took ∧ Keeps (fun k => k = b) w w' := by
  obtain ⟨hbase, hsize, m, a0, n0, c0, hm3, hm4, hb3, hA, hA5⟩ := hb
  obtain ⟨⟨e0, e1, e2, e3, e4, e5⟩, y0, y1, y2, y3, y4, y5⟩ := six_cells hb3
  by_cases hw : s.whl = true
  · have hk : Keeps (fun k => k = b) w (w.setCell ⟨b, 5, none⟩ (.bool false)) := (Keeps.refl _ w).put 5 _
    have H3 : Hid (Blk (w.setCell ⟨b, 5, none⟩ (.bool false)) b #[.int .i64 m, .bool s.opn, .int .u32 s.st, .bool s.fin, .slice a0 n0 c0, .bool false] 31) := Lib.hid ((hb3.set 5 _).as rfl)
    have HA := Lib.hid (hA.keep hk (fun b' hb' e => by have := (hA5 b' hb').1; omega))
    have HA5 := Lib.hid hA5
    have HK := Lib.hid hk
    have HM := Lib.hid hm3
    have HSZ := Lib.hid hsize
    rw [hw] at e5
    clear hb3 hA hA5 hk hm3 hsize
    go_enter Try.func12, Try.ntmps12
    go_wp2_with fail
    go_quiet (fail)
    go_wp2_with fail
    go_returns
    refine ⟨?_, ⟨hbase, Nat.le_trans HSZ.out HK.out.size, m, a0, n0, c0, HM.out, hm4, H3.out.drewN _, ⟨HA.out.1, HA.out.2.drewN _⟩, fun b' hb' => ⟨(HA5.out b' hb').1, Nat.lt_of_lt_of_le (HA5.out b' hb').2 HK.out.size⟩⟩, HK.out.drewN _⟩
    unfold TkP; rw [if_pos hw]; exact ⟨a0, n0, c0, rfl, ⟨HA.out.1, HA.out.2.drewN _⟩, fun b' hb' => ⟨(HA5.out b' hb').1, Nat.lt_of_lt_of_le (HA5.out b' hb').2 HK.out.size⟩⟩
  · have hwf : s.whl = false := by simpa using hw
    have HB : Hid (RkM base w b s.took) := ⟨hbase, hsize, m, a0, n0, c0, hm3, hm4, by rw [hwf] at hb3; exact hb3, hA, hA5⟩
    rw [hwf] at e5
    clear hb3 hA hA5
    go_enter Try.func12, Try.ntmps12
    go_wp2_with fail
    go_returns
    exact ⟨by unfold TkP; rw [if_neg hw]; rfl, HB.out, Keeps.refl _ _⟩

set_option maxRecDepth 100000 in
set_option maxHeartbeats 3200000 in
theorem radd_may (base b : Nat) (s : Bk) (t fl st : Int) (fa : Option Addr) (fn fc : Nat) (xs : List UInt8) (w : World) (hb : RkM base w b s) (hs : s.Ok) (hx : By w fa fn fc xs) (hn : fn ≤ 1000000) (hm : s.may t st = false) :
    Calls Try.prog 9 #[.pointer (some ⟨b, 0, none⟩), FrV t fl st fa fn fc] w (RdP base b s t fl st xs w) := by
  have hk0 : Keeps (fun _ => False) w (w.alloc (.cells #[.int .u8 t, .int .u8 fl, .int .u32 st, .slice fa fn fc] 33 (0, 0))) := (Keeps.refl _ w).alloc _
  have HRK := Lib.hid (hb.keep hk0 (fun _ h => False.elim h) (fun h => h))
  have HX0 := Lib.hid (hx.alloc (.cells #[.int .u8 t, .int .u8 fl, .int .u32 st, .slice fa fn fc] 33 (0, 0)))
  have HX := Lib.hid hx
  have HK0 := Lib.hid hk0
  have hbb : b < w.heap.size := Nat.lt_of_lt_of_le hb.1 hb.2.1
  obtain ⟨hbase, hsize, m, a0, n0, c0, hm3, hm4, hb3, hA, hA5⟩ := hb
  have HB0 := Lib.hid (hb3.alloc (.cells #[.int .u8 t, .int .u8 fl, .int .u32 st, .slice fa fn fc] 33 (0, 0)))
  have HF0 := Lib.hid (Blk.new w #[.int .u8 t, .int .u8 fl, .int .u32 st, .slice fa fn fc] 33)
  have HA2 := Lib.hid hA
  have HA5 := Lib.hid hA5
  have HM3 := Lib.hid hm3
  obtain ⟨⟨e0, e1, e2, e3, e4, e5⟩, y0, y1, y2, y3, y4, y5⟩ := six_cells HB0.out
  have f00 : (w.alloc (.cells #[.int .u8 t, .int .u8 fl, .int .u32 st, .slice fa fn fc] 33 (0, 0))).cell? ⟨w.heap.size, 0, none⟩ = some (.int .u8 t) := HF0.out.cell 0
  have f01 : (w.alloc (.cells #[.int .u8 t, .int .u8 fl, .int .u32 st, .slice fa fn fc] 33 (0, 0))).cell? ⟨w.heap.size, 1, none⟩ = some (.int .u8 fl) := HF0.out.cell 1
  have f02 : (w.alloc (.cells #[.int .u8 t, .int .u8 fl, .int .u32 st, .slice fa fn fc] 33 (0, 0))).cell? ⟨w.heap.size, 2, none⟩ = some (.int .u32 st) := HF0.out.cell 2
  have f03 : (w.alloc (.cells #[.int .u8 t, .int .u8 fl, .int .u32 st, .slice fa fn fc] 33 (0, 0))).cell? ⟨w.heap.size, 3, none⟩ = some (.slice fa fn fc) := HF0.out.cell 3
  clear hk0 hx hb3 hA hA5 hm3
  unfold FrV
  have HQ : Hid (s.done t fl st xs = false ∧ s.rule t fl st xs = 6 ∧ s.add t fl st xs = s) := Lib.hid ⟨(add_not (takes_may hm)).2, by unfold Bk.rule; rw [if_pos hm], (add_not (takes_may hm)).1⟩
  cases ho : s.opn with
  | true =>
    rw [ho] at e1
    have hm' : (t == 9 && st == s.st) = false := by unfold Bk.may at hm; rwa [if_pos ho] at hm
    clear hm
    cases h9 : (t != 9) with
    | true =>
      clear hm'
      go_enter Try.func9, Try.ntmps9
      go_wp2_with fail
      go_quiet (fail)
      go_wp2_with fail
      go_returns
      exact ⟨by rw [HQ.out.1, HQ.out.2.1]; rfl, by rw [HQ.out.2.2]; exact HRK.out.keep ((Keeps.refl _ _).drewN _) (fun _ h => False.elim h) (fun h => h), (HK0.out.drewN _).to⟩
    | false =>
      have hst : (st != s.st) = true := by
        have h9' : (t == 9) = true := by simpa using h9
        rw [h9'] at hm'
        simpa using hm'
      clear hm'
      go_enter Try.func9, Try.ntmps9
      go_wp2_with fail
      go_quiet (fail)
      go_wp2_with fail
      go_returns
      exact ⟨by rw [HQ.out.1, HQ.out.2.1]; rfl, by rw [HQ.out.2.2]; exact HRK.out.keep ((Keeps.refl _ _).drewN _) (fun _ h => False.elim h) (fun h => h), (HK0.out.drewN _).to⟩
  | false =>
    rw [ho] at e1
    have h9 : (t == 9) = true := by unfold Bk.may at hm; rw [if_neg (by rw [ho]; simp)] at hm; simpa using hm
    clear hm
    go_enter Try.func9, Try.ntmps9
    go_wp2_with fail
    go_quiet (fail)
    go_wp2_with fail
    go_returns
    exact ⟨by rw [HQ.out.1, HQ.out.2.1]; rfl, by rw [HQ.out.2.2]; exact HRK.out.keep ((Keeps.refl _ _).drewN _) (fun _ h => False.elim h) (fun h => h), (HK0.out.drewN _).to⟩

set_option maxRecDepth 100000 in
set_option maxHeartbeats 3200000 in
theorem radd_says (base b : Nat) (s : Bk) (t fl st : Int) (fa : Option Addr) (fn fc : Nat) (xs : List UInt8) (w : World) (hb : RkM base w b s) (hs : s.Ok) (hx : By w fa fn fc xs) (hn : fn ≤ 1000000) (hm : s.may t st = true) (hy : s.says t = false) :
    Calls Try.prog 9 #[.pointer (some ⟨b, 0, none⟩), FrV t fl st fa fn fc] w (RdP base b s t fl st xs w) := by
  have hk0 : Keeps (fun _ => False) w (w.alloc (.cells #[.int .u8 t, .int .u8 fl, .int .u32 st, .slice fa fn fc] 33 (0, 0))) := (Keeps.refl _ w).alloc _
  have HRK := Lib.hid (hb.keep hk0 (fun _ h => False.elim h) (fun h => h))
  have HX0 := Lib.hid (hx.alloc (.cells #[.int .u8 t, .int .u8 fl, .int .u32 st, .slice fa fn fc] 33 (0, 0)))
  have HX := Lib.hid hx
  have HK0 := Lib.hid hk0
  have hbb : b < w.heap.size := Nat.lt_of_lt_of_le hb.1 hb.2.1
  obtain ⟨hbase, hsize, m, a0, n0, c0, hm3, hm4, hb3, hA, hA5⟩ := hb
  have HB0 := Lib.hid (hb3.alloc (.cells #[.int .u8 t, .int .u8 fl, .int .u32 st, .slice fa fn fc] 33 (0, 0)))
  have HF0 := Lib.hid (Blk.new w #[.int .u8 t, .int .u8 fl, .int .u32 st, .slice fa fn fc] 33)
  have HA2 := Lib.hid hA
  have HA5 := Lib.hid hA5
  have HM3 := Lib.hid hm3
  obtain ⟨⟨e0, e1, e2, e3, e4, e5⟩, y0, y1, y2, y3, y4, y5⟩ := six_cells HB0.out
  have f00 : (w.alloc (.cells #[.int .u8 t, .int .u8 fl, .int .u32 st, .slice fa fn fc] 33 (0, 0))).cell? ⟨w.heap.size, 0, none⟩ = some (.int .u8 t) := HF0.out.cell 0
  have f01 : (w.alloc (.cells #[.int .u8 t, .int .u8 fl, .int .u32 st, .slice fa fn fc] 33 (0, 0))).cell? ⟨w.heap.size, 1, none⟩ = some (.int .u8 fl) := HF0.out.cell 1
  have f02 : (w.alloc (.cells #[.int .u8 t, .int .u8 fl, .int .u32 st, .slice fa fn fc] 33 (0, 0))).cell? ⟨w.heap.size, 2, none⟩ = some (.int .u32 st) := HF0.out.cell 2
  have f03 : (w.alloc (.cells #[.int .u8 t, .int .u8 fl, .int .u32 st, .slice fa fn fc] 33 (0, 0))).cell? ⟨w.heap.size, 3, none⟩ = some (.slice fa fn fc) := HF0.out.cell 3
  clear hk0 hx hb3 hA hA5 hm3
  unfold FrV
  have HQ : Hid (s.done t fl st xs = false ∧ s.rule t fl st xs = 0 ∧ s.add t fl st xs = s) := Lib.hid ⟨(add_not (takes_says hy)).2, by unfold Bk.rule; rw [if_neg (by rw [hm]; simp), if_pos hy], (add_not (takes_says hy)).1⟩
  cases ho : s.opn with
  | true => unfold Bk.says at hy; rw [if_pos ho] at hy; cases hy
  | false =>
    rw [ho] at e1
    have h9 : (t == 9) = false := by unfold Bk.may at hm; rw [if_neg (by rw [ho]; simp)] at hm; simpa using hm
    have h1 : (t != 1) = true := by unfold Bk.says at hy; rw [if_neg (by rw [ho]; simp)] at hy; simpa using hy
    clear hm hy
    go_enter Try.func9, Try.ntmps9
    go_wp2_with fail
    go_quiet (fail)
    go_wp2_with fail
    go_returns
    exact ⟨by rw [HQ.out.1, HQ.out.2.1]; rfl, by rw [HQ.out.2.2]; exact HRK.out.keep ((Keeps.refl _ _).drewN _) (fun _ h => False.elim h) (fun h => h), (HK0.out.drewN _).to⟩

theorem rfin {base b N c8 : Nat} {a8 : Option Addr} {m : Int} {s : Bk} {t fl st : Int} {xs : List UInt8} {w w9 w10 : World} (h1 : s.add t fl st xs = s.next t fl st xs) (h2 : s.done t fl st xs = lastB fl) (h3 : s.rule t fl st xs = 0)
    (hb : b < base) (hm : (if m < 0 then 0 else m) = s.most) (hm4 : -9223372036854775808 ≤ m) (hx : By w9 a8 N c8 (s.ys t fl xs)) (hg : ∀ b', a8.map (·.block) = some b' → base ≤ b' ∧ b' < w9.heap.size) (hk9 : Keeps (fun k => k = b) w w9) (hsz : base ≤ w9.heap.size)
    (hB : Blk w10 b #[.int .i64 m, .bool (!(bits .and .u8 fl 4 != 0)), .int .u32 (s.next t fl st xs).st, .bool (s.next t fl st xs).fin, .slice a8 N c8, .bool (bits .and .u8 fl 4 != 0)] 31) (hk : Keeps (fun k => k = b) w9 w10) :
    RdP base b s t fl st xs w (.returned (.tuple #[.bool (bits .and .u8 fl 4 != 0), .int .i64 0])) w10 := by
  refine ⟨by rw [h2, h3]; rfl, ⟨hb, Nat.le_trans hsz hk.size, m, a8, N, c8, ?_, hm4, ?_, ?_, ?_⟩, hk9.trans hk⟩
  · rw [h1]; exact hm
  · rw [h1]; exact hB
  · rw [h1]; exact hx.keep hk (fun b' hb' e => by have := (hg b' hb').1; omega)
  · exact fun b' hb' => ⟨(hg b' hb').1, Nat.lt_of_lt_of_le (hg b' hb').2 hk.size⟩


end Go.Proofs.Ytcfljnlfikkhaaa
