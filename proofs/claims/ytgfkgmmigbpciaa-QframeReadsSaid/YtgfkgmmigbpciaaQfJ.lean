import Derived.Test.YtgfkgmmigbpciaaQfI
/- try of the package qframe: what is deferred, what is caught. -/
namespace Go.Proofs.Ytgfkgmmigbpciaa
set_option linter.unusedSimpArgs false
set_option linter.unusedVariables false
open Go.RowKit Go.Deep

set_option maxHeartbeats 800000 in
theorem catch_panicking (n : Nat) (older : List PanicEntry) (b : Bool) (w : World) (h : Blk w n #[.bool b] 4) :
  CallsD Try.prog 36 #[.pointer (some ⟨n, 0, none⟩)] (.panicking ({ v := stopV, recovered := false } :: older)) w fun e u' w' =>
   e = .returned (.tuple #[]) ∧ u' = .panicking ({ v := stopV, recovered := true } :: older) ∧ Blk w' n #[.bool false] 4 ∧ Keeps (fun k => k = n) w w' := by
 have HR := Lib.hid h
 clear h
 refine callsD_of_wpS Try.func36 rfl fun c₀ cs hu => ?_
 apply wpS_seq
 apply wpS_region
 simp [wpOpsS, go_sem, recoverD, hu, Try.ntmps36, Exit.thenS]
 refine wpS_of_wp ?_
 generalize hQ : (fun (e : Exit) (a' : Act) (w' : World) => bodyPostS Try.prog Try.f36 c₀ cs _ e a' _ w') = Q
 have HQ := Lib.hid hQ
 clear hQ
 change Code.wp _ _ _ { tmps := #[.pointer (some ⟨n, 0, none⟩), stopV, undef, undef, stopV, undef, undef, undef, undef, undef, undef, undef, undef, undef, undef], defers := [] } _
 unfold stopV
 have hta : ∀ w : World, (Instr.typeAssert (.iface 82 (.agg #[])) 20 82 true).run Try.prog w = .ok (.tuple #[.agg #[], .bool true]) w := fun _ => by kernel_rfl
 clear hu
 go_upto_region 5 with fail
 refine wp_named ?_
 intro w5 hw5
 have hsz : n < w.heap.size := HR.out.lt
 have HR1 : Hid (Blk w5 n #[.bool b] 4) := Lib.hid (by rw [← hw5]; exact HR.out.alloc _)
 have HB1 : Hid (Keeps (fun k => k = n) w w5) := Lib.hid (by rw [← hw5]; exact (Keeps.refl _ w).alloc _)
 clear hw5 hta
 have z0 : w5.cell? ⟨n, 0, none⟩ = some (.bool b) := HR1.out.cell 0
 have y0 : w5.frozen? ⟨n, 0, none⟩ = false := HR1.out.free 0
 go_wp2_with fail
 rw [← HQ.out]
 refine ⟨rfl, _, rfl, .tuple #[], by simp [results, Try.results36, go_sem], rfl, rfl, ?_, ?_⟩
 ·exact (HR1.out.set 0 (.bool false)).as rfl
 ·exact HB1.out.put 0 (.bool false)

theorem catch_idle (n : Nat) (w : World) :
  CallsD Try.prog 36 #[.pointer (some ⟨n, 0, none⟩)] .returning w fun e u' w' => e = .returned (.tuple #[]) ∧ u' = .returning ∧ w = w' := by
 refine callsD_of_wpS Try.func36 rfl fun c₀ cs hu => ?_
 apply wpS_seq
 apply wpS_region
 simp [wpOpsS, go_sem, recoverD, hu, Try.ntmps36, Exit.thenS]
 refine wpS_of_wp ?_
 generalize hQ : (fun (e : Exit) (a' : Act) (w' : World) => bodyPostS Try.prog Try.f36 c₀ cs _ e a' _ w') = Q
 have HQ := Lib.hid hQ
 have HU := Lib.hid hu
 clear hQ hu
 change Code.wp _ _ _ { tmps := #[.pointer (some ⟨n, 0, none⟩), Value.nilIface, undef, undef, Value.nilIface, undef, undef, undef, undef, undef, undef, undef, undef, undef, undef], defers := [] } _
 go_wp2_with fail
 rw [← HQ.out]
 cases c₀
 have hu := HU.out
 dsimp only at hu
 subst hu
 exact ⟨rfl, _, rfl, .tuple #[], by simp [results, Try.results36, go_sem], rfl, rfl, rfl⟩

theorem try_results (fr : Array Value) (w : World) (n : Nat) (b : Bool) (h2 : fr[2]?.getD undef = .pointer (some ⟨n, 0, none⟩)) (hb : Blk w n #[.bool b] 4) :
  (results Try.f22 fr).run Try.prog w = .ok (.bool b) w := by
 have s0 : w.cell? ⟨n, 0, none⟩ = some (.bool b) := hb.cell 0
 simp [results, Try.results22, go_sem, h2, s0]

/-- What is tried has been done, or was given up. -/
def TriedP (n : Nat) (R : Bool → World → Prop) (e : Ending) (w' : World) : Prop :=
 Blk w' n #[.bool false] 4 ∧ ((e = .returned (.tuple #[]) ∧ R true w') ∨ (e = .panicked [{ v := stopV, recovered := false }] ∧ R false w'))

set_option maxHeartbeats 1600000 in
theorem try_any (fn : FuncId) (caps : Array Value) (w : World) (R : Bool → World → Prop) (hc : ∀ w : World, (callFunc fn caps).run Try.prog w = .ok (.enter fn caps) w)
  (h : Calls Try.prog fn caps (w.alloc (.cells #[.bool false] 4 (0, 0))) (TriedP w.heap.size R)) :
  Calls Try.prog 22 #[.func (.func fn) #[] caps] w fun e w' => ∃ ok w0, e = .returned (.bool ok) ∧ R ok w0 ∧ Keeps (fun k => k = w.heap.size) w0 w' := by
 have hmf : ∀ (fn : Fn) (first cap : Array Value) (w : World), (Instr.makeFunc fn first cap).run Try.prog w = .ok (.func fn first cap) w := fun _ _ _ _ => rfl
 have HH := Lib.hid h
 clear h
 go_enter_defers Try.func22, Try.ntmps22
 go_wp2_with fail
 clear hc hmf
 refine HH.out.mono ?_
 rintro e w1 ⟨hb, ⟨rfl, hr⟩ | ⟨rfl, hr⟩⟩
 ·have z0 : w1.cell? ⟨w.heap.size, 0, none⟩ = some (.bool false) := hb.cell 0
  have y0 : w1.frozen? ⟨w.heap.size, 0, none⟩ = false := hb.free 0
  have HB := Lib.hid ((hb.set 0 (.bool true)).as (cs' := #[.bool true]) rfl)
  have HR := Lib.hid hr
  clear hb hr
  go_wp2_with fail
  refine leaves_cons (f := 36) (args := #[.pointer (some ⟨w.heap.size, 0, none⟩)]) (by simp) (by simp [go_sem]) ?_
  refine (catch_idle w.heap.size _).mono ?_
  rintro e u' w'' ⟨rfl, rfl, rfl⟩
  dsimp only [settle]
  exact ⟨_, try_results _ _ w.heap.size true rfl HB.out, true, w1, rfl, HR.out, (Keeps.refl _ w1).put 0 _⟩
 ·have HB := Lib.hid hb
  have HR := Lib.hid hr
  clear hb hr
  go_wp2_with fail
  refine leaves_cons (f := 36) (args := #[.pointer (some ⟨w.heap.size, 0, none⟩)]) (by simp) (by simp [go_sem]) ?_
  refine (catch_panicking w.heap.size [] false w1 HB.out).mono ?_
  rintro e u' w'' ⟨rfl, rfl, hb2, hk⟩
  dsimp only [settle]
  exact ⟨_, try_results _ _ w.heap.size false rfl hb2, false, w1, rfl, HR.out, hk⟩

end Go.Proofs.Ytgfkgmmigbpciaa

/- Write of the package qframe. -/
namespace Go.Proofs.Ytgfkgmmigbpciaa
set_option linter.unusedSimpArgs false
set_option linter.unusedVariables false
open Go.RowKit Go.Deep

/-- Frames in memory. -/
def Qv (w : World) (a : Option Addr) (n cap : Nat) (l : List Qf) : Prop := n = l.length ∧ n ≤ cap ∧ cap ≤ maxLen ∧ ∀ i (hi : i < l.length), (∃ b off, a = some ⟨b, off, none⟩ ∧ b < w.heap.size ∧ ∀ j v, l[i].cs[j]? = some v → w.cell? ⟨b, off + i * 12 + j, none⟩ = some v) ∧ Qin w l[i]
/-- A frame that is no great one. -/
structure Qc.Small (c : Qc) : Prop where
 b : c.xs.length ≤ 1000
 r : c.rs.length ≤ 100
 n : c.N ≤ 10000

theorem varsE_len (l : List Int) : (varsE l).length ≤ 8 * l.length := by
 have h8 : ∀ x, (varE x).length ≤ 8 := fun x => by unfold varE; (repeat' split) <;> simp [bigD_length]
 induction l with
 | nil => simp [varsE]
 | cons v l ih =>
  have h1 : varsE (v :: l) = varE v ++ varsE l := by simp [varsE]
  have h2 := h8 v
  rw [h1, List.length_append, List.length_cons]
  omega
theorem gapsL_len : ∀ (rs : List (Int × Int)) (f : Int), (gapsL f rs).length = 2 * rs.length
 | [], _ => rfl
 | r :: rest, f => by simp only [gapsL, List.length_cons, gapsL_len rest]; omega
theorem ackL_len (delay : Int) (rs : List (Int × Int)) : (ackL delay rs).length ≤ 5 + 2 * rs.length := by
 cases rs with
 | nil => simp [ackL]
 | cons r rest => simp only [ackL, List.length_cons, gapsL_len]; omega
theorem plan_len {c : Qc} {l : List Int} {tl : List UInt8} (h : planQ c = some (l, tl)) : l.length ≤ 5 + 2 * c.rs.length ∧ tl.length ≤ c.xs.length + 1 := by
 have ha := ackL_len c.delay c.rs
 by_cases h1 : c.t = 1
 ·rw [plan_1 h1] at h; cases h; simp only [List.length_cons, List.length_nil]; exact ⟨by omega, by omega⟩
 by_cases h30 : c.t = 30
 ·rw [plan_30 h30] at h; cases h; simp only [List.length_cons, List.length_nil]; exact ⟨by omega, by omega⟩
 by_cases h4 : c.t = 4
 ·rw [plan_4 h4] at h; cases h; simp only [List.length_cons, List.length_nil]; exact ⟨by omega, by omega⟩
 by_cases h5 : c.t = 5
 ·rw [plan_5 h5] at h; cases h; simp only [List.length_cons, List.length_nil]; exact ⟨by omega, by omega⟩
 by_cases h16 : c.t = 16
 ·rw [plan_16 h16] at h; cases h; simp only [List.length_cons, List.length_nil]; exact ⟨by omega, by omega⟩
 by_cases h20 : c.t = 20
 ·rw [plan_20 h20] at h; cases h; simp only [List.length_cons, List.length_nil]; exact ⟨by omega, by omega⟩
 by_cases h17 : c.t = 17
 ·rw [plan_17 h17] at h; cases h; simp only [List.length_cons, List.length_nil]; exact ⟨by omega, by omega⟩
 by_cases h21 : c.t = 21
 ·rw [plan_21 h21] at h; cases h; simp only [List.length_cons, List.length_nil]; exact ⟨by omega, by omega⟩
 by_cases h25 : c.t = 25
 ·rw [plan_25 h25] at h; cases h; simp only [List.length_cons, List.length_nil]; exact ⟨by omega, by omega⟩
 by_cases h6 : c.t = 6
 ·rw [plan_6 h6] at h
  split at h
  ·cases h; simp only [List.length_cons, List.length_nil]; exact ⟨by omega, by omega⟩
  ·cases h
 by_cases h7 : c.t = 7
 ·rw [plan_7 h7] at h
  split at h
  ·cases h; simp only [List.length_cons, List.length_nil]; exact ⟨by omega, by omega⟩
  ·cases h
 by_cases h18 : c.t = 18
 ·rw [plan_18 h18] at h
  split at h
  ·cases h; simp only [List.length_cons, List.length_nil]; exact ⟨by omega, by omega⟩
  ·cases h
 by_cases h22 : c.t = 22
 ·rw [plan_22 h22] at h
  split at h
  ·cases h; simp only [List.length_cons, List.length_nil]; exact ⟨by omega, by omega⟩
  ·cases h
 by_cases h24 : c.t = 24
 ·rw [plan_24 h24] at h
  split at h
  ·cases h; simp only [List.length_cons, List.length_nil]; exact ⟨by omega, by omega⟩
  ·cases h
 by_cases h26 : c.t = 26
 ·rw [plan_26 h26] at h
  split at h
  ·cases h; simp only [List.length_cons, List.length_nil]; exact ⟨by omega, by omega⟩
  ·cases h
 by_cases h27 : c.t = 27
 ·rw [plan_27 h27] at h
  split at h
  ·cases h; simp only [List.length_cons, List.length_nil]; exact ⟨by omega, by omega⟩
  ·cases h
 by_cases h2 : c.t = 2
 ·rw [plan_2 h2] at h
  split at h
  ·cases h; exact ⟨ha, by simp⟩
  ·cases h
 by_cases h8 : c.t = 8
 ·rw [plan_8 h8] at h
  split at h
  ·cases h; exact ⟨by split <;> (simp only [List.length_cons, List.length_nil]; omega), by omega⟩
  ·cases h
 by_cases h28 : c.t = 28
 ·rw [plan_28 h28] at h
  cases h
  exact ⟨by split <;> (simp only [List.length_cons, List.length_nil]; omega), by omega⟩
 rw [plan_no (by unfold typesQ; simp only [List.mem_cons, List.not_mem_nil, or_false, not_or]; exact ⟨h1, h30, h2, h4, h5, h6, h7, h8, h16, h20, h17, h21, h18, h22, h24, h25, h26, h27, h28⟩)] at h
 cases h
theorem encQ_len {c : Qc} {ys : List UInt8} (hs : c.Small) (h : encQ c = some ys) : ys.length ≤ 20000 := by
 unfold encQ at h
 split at h
 ·cases h
  have := hs.n
  rw [List.length_replicate]
  split <;> omega
 ·split at h
  ·rename_i l tl hp
   split at h
   ·cases h
    have h1 := plan_len hp
    have h2 := varsE_len l
    have h3 := hs.b
    have h4 := hs.r
    rw [List.length_append]
    omega
   ·cases h
  ·cases h

/-- Frames written behind bytes. -/
def encsO (xs : List UInt8) (l : List Qf) : Option (List UInt8) := match encsQ (l.map (·.c)) with
 | some ys => some (xs ++ ys)
 | none => none
theorem encsQ_cut : ∀ (l : List Qc) (i : Nat) (hi : i < l.length) (ys : List UInt8), encsQ (l.take i) = some ys → encQ l[i] = none → encsQ l = none
 | c :: l, 0, _, ys, _, h => by
  simp only [List.getElem_cons_zero] at h
  unfold encsQ
  rw [h]
 | c :: l, i + 1, hi, ys, h1, h2 => by
  rw [List.take_succ_cons] at h1
  unfold encsQ at h1 ⊢
  cases hc : encQ c with
  | none => rfl
  | some zs =>
   rw [hc] at h1
   cases ht : encsQ (l.take i) with
   | none => rw [ht] at h1; cases h1
   | some us =>
    rw [encsQ_cut l i (by simpa using hi) us ht (by simpa using h2)]
theorem encsQ_len : ∀ (l : List Qc) (ys : List UInt8), (∀ c ∈ l, c.Small) → encsQ l = some ys → ys.length ≤ 20000 * l.length
 | [], ys, _, h => by cases h; simp
 | c :: l, ys, hs, h => by
  unfold encsQ at h
  cases hc : encQ c with
  | none => rw [hc] at h; cases h
  | some zs =>
   rw [hc] at h
   cases ht : encsQ l with
   | none => rw [ht] at h; cases h
   | some us =>
    rw [ht] at h
    cases h
    have h1 := encQ_len (hs c List.mem_cons_self) hc
    have h2 := encsQ_len l us (fun d hd => hs d (List.mem_cons_of_mem _ hd)) ht
    rw [List.length_append, List.length_cons]
    omega

set_option maxRecDepth 100000 in
set_option maxHeartbeats 3200000 in
theorem write1_any (B pf pw wb : Nat) (la : Option Addr) (ln lc : Nat) (l : List Qf) (a : Option Addr) (n c : Nat) (xs : List UInt8) (w : World) (hpf : Blk w pf #[.slice la ln lc] 23) (hpw : Blk w pw #[.pointer (some ⟨wb, 0, none⟩)] 59)
  (hw : Wr B w wb a n c xs) (hl : ∀ w', Below B w w' → Qv w' la ln lc l) (hs : ∀ f ∈ l, f.c.Small) (hn : n ≤ 100000) (hln : l.length ≤ 100) (hB : B ≤ w.heap.size) (hf1 : ¬ wrS B wb a pf) (hf2 : ¬ wrS B wb a pw) :
  Calls Try.prog 23 #[.pointer (some ⟨pf, 0, none⟩), .pointer (some ⟨pw, 0, none⟩)] w (WrP B wb a (encsO xs l) w) := by
 have HPF := Lib.hid hpf
 have HPW := Lib.hid hpw
 have HW := Lib.hid hw
 have HL := Lib.hid hl
 have HS := Lib.hid hs
 have HF1 := Lib.hid hf1
 have HF2 := Lib.hid hf2
 have HLN : Hid (ln = l.length) := Lib.hid (hl w (Below.refl _ _)).1
 have hlc : ln ≤ lc := (hl w (Below.refl _ _)).2.1
 have c0 : w.cell? ⟨pf, 0, none⟩ = some (.slice la ln lc) := hpf.cell 0
 clear hpf hpw hw hl hs hf1 hf2
 go_enter Try.func23, Try.ntmps23
 go_wp2_with fail
 clear c0
 go_loopg [6] ln (fun k vi wr => ∃ (i : Nat) (a' : Option Addr) (n' c' : Nat) (ys : List UInt8), vi = .int .i64 i ∧ k + i = ln ∧ encsQ ((l.take i).map (·.c)) = some ys ∧ Wr B wr wb a' n' c' (xs ++ ys) ∧ Keeps (wrS B wb a) w wr ∧ Near B w a a')
 case atStart => exact ⟨0, a, n, c, [], rfl, by omega, rfl, by rw [List.append_nil]; exact HW.out, Keeps.refl _ _, Near.refl _ _ _⟩
 case round =>
  obtain ⟨i, a1, n1, c1, ys, rfl, hk, he, hw1, hk1, hn1⟩ := hrel
  have HI := Lib.hid hk
  have HE := Lib.hid he
  have HW1 := Lib.hid hw1
  have HK1 := Lib.hid hk1
  have HN1 := Lib.hid hn1
  clear hk he hw1 hk1 hn1
  by_cases hin : i < ln
  ·have hix : i < l.length := by have := HLN.out; omega
   have HB1 : Hid (Below B w wr) := Lib.hid (wrS_below HK1.out (Below.refl B w) hB HW.out.le)
   obtain ⟨⟨bb, oo, rfl, hbb, hcell⟩, hqin⟩ := (HL.out wr HB1.out).2.2.2 i hix
   have hsm := HS.out _ (List.getElem_mem hix)
   have hnb : n1 ≤ 3000000 := by
    have h1 := HW1.out.len
    have h2 := HW.out.len
    have h3 := encsQ_len _ ys (fun c hc => by
     obtain ⟨g, hg, rfl⟩ := List.mem_map.1 hc
     exact HS.out g (List.mem_of_mem_take hg)) HE.out
    simp only [List.length_map, List.length_take, List.length_append] at h1 h3
    omega
   have HNX : Hid (∀ zs, encQ l[i].c = some zs → encsQ ((l.take (i + 1)).map (·.c)) = some (ys ++ zs)) := Lib.hid (fun zs hz => by
    rw [List.take_succ_eq_append_getElem hix, List.map_append, List.map_singleton, encsQ_snoc, HE.out, hz])
   have HNO : Hid (encQ l[i].c = none → encsO xs l = none) := Lib.hid (fun hz => by
    unfold encsO
    rw [encsQ_cut (l.map (·.c)) i (by simpa using hix) ys (by rw [← List.map_take]; exact HE.out) (by simpa using hz)])
   have hfn : l[i].n ≤ 1000000 := by have := hqin.b.1; have := hsm.b; omega
   have HQI : Hid (∀ w', Below B wr w' → Qin w' l[i]) := Lib.hid (fun w' h => ((HL.out w' (HB1.out.trans h)).2.2.2 i hix).2)
   have HSM := Lib.hid hsm
   clear hqin hsm
   generalize l[i] = f at *
   have r0 : wr.cell? ⟨bb, oo + i * 12 + 0, none⟩ = some (.int .u64 f.c.t) := hcell 0 _ rfl
   have r1 : wr.cell? ⟨bb, oo + i * 12 + 1, none⟩ = some (.int .u64 f.c.id) := hcell 1 _ rfl
   have r2 : wr.cell? ⟨bb, oo + i * 12 + 2, none⟩ = some (.int .u64 f.c.off) := hcell 2 _ rfl
   have r3 : wr.cell? ⟨bb, oo + i * 12 + 3, none⟩ = some (.bool f.c.fin) := hcell 3 _ rfl
   have r4 : wr.cell? ⟨bb, oo + i * 12 + 4, none⟩ = some (.int .u64 f.c.mx) := hcell 4 _ rfl
   have r5 : wr.cell? ⟨bb, oo + i * 12 + 5, none⟩ = some (.int .u64 f.c.code) := hcell 5 _ rfl
   have r6 : wr.cell? ⟨bb, oo + i * 12 + 6, none⟩ = some (.int .u64 f.c.delay) := hcell 6 _ rfl
   have r7 : wr.cell? ⟨bb, oo + i * 12 + 7, none⟩ = some (.slice f.ra f.rn f.rc) := hcell 7 _ rfl
   have r8 : wr.cell? ⟨bb, oo + i * 12 + 8, none⟩ = some (.slice f.a f.n f.cap) := hcell 8 _ rfl
   have r9 : wr.cell? ⟨bb, oo + i * 12 + 9, none⟩ = some (.bool f.c.uni) := hcell 9 _ rfl
   have r10 : wr.cell? ⟨bb, oo + i * 12 + 10, none⟩ = some (.bool f.c.app) := hcell 10 _ rfl
   have r11 : wr.cell? ⟨bb, oo + i * 12 + 11, none⟩ = some (.int .i64 f.c.N) := hcell 11 _ rfl
   simp only [Nat.add_zero] at r0
   clear hcell
   have hiI : (i : Int) < (ln : Int) := by omega
   have hpw1 := HK1.out.blk HPW.out HF2.out
   have HFB : Hid (¬ wrS B wb a1 wr.heap.size) := Lib.hid (HW1.out.fresh (Nat.le_refl _))
   go_upto_region 3 with fail
   refine wp_named ?_
   intro w5 hw5
   have HK5 : Hid (Keeps (fun _ => False) wr w5) := Lib.hid (by rw [← hw5]; exact (Keeps.refl _ wr).alloc _)
   have hg5 : Blk w5 wr.heap.size f.cs 32 := by rw [← hw5]; exact Blk.new _ _ _
   unfold Qf.cs at hg5
   have hp5 := HK5.out.blk hpw1 (fun h => h)
   have p0 : w5.cell? ⟨pw, 0, none⟩ = some (.pointer (some ⟨wb, 0, none⟩)) := hp5.cell 0
   have HW5 := Lib.hid (HW1.out.same HK5.out)
   have HB5 : Hid (Below B wr w5) := Lib.hid (Keeps.below (Below.refl B wr) HK5.out (Nat.le_trans hB HK1.out.size) (fun _ h => False.elim h))
   have hB5 : B ≤ w5.heap.size := by have h1 := HK5.out.size; have h2 := HK1.out.size; omega
   clear hw5 hpw1 hp5 r0 r1 r2 r3 r4 r5 r6 r7 r8 r9 r10 r11
   generalize wr.heap.size = fb at *
   have q0 : w5.cell? ⟨fb, 0, none⟩ = some (.int .u64 f.c.t) := hg5.cell 0
   have q1 : w5.cell? ⟨fb, 1, none⟩ = some (.int .u64 f.c.id) := hg5.cell 1
   have q2 : w5.cell? ⟨fb, 2, none⟩ = some (.int .u64 f.c.off) := hg5.cell 2
   have q3 : w5.cell? ⟨fb, 3, none⟩ = some (.bool f.c.fin) := hg5.cell 3
   have q4 : w5.cell? ⟨fb, 4, none⟩ = some (.int .u64 f.c.mx) := hg5.cell 4
   have q5 : w5.cell? ⟨fb, 5, none⟩ = some (.int .u64 f.c.code) := hg5.cell 5
   have q6 : w5.cell? ⟨fb, 6, none⟩ = some (.int .u64 f.c.delay) := hg5.cell 6
   have q7 : w5.cell? ⟨fb, 7, none⟩ = some (.slice f.ra f.rn f.rc) := hg5.cell 7
   have q8 : w5.cell? ⟨fb, 8, none⟩ = some (.slice f.a f.n f.cap) := hg5.cell 8
   have q9 : w5.cell? ⟨fb, 9, none⟩ = some (.bool f.c.uni) := hg5.cell 9
   have q10 : w5.cell? ⟨fb, 10, none⟩ = some (.bool f.c.app) := hg5.cell 10
   have q11 : w5.cell? ⟨fb, 11, none⟩ = some (.int .i64 f.c.N) := hg5.cell 11
   clear hg5
   go_wp2_with fail
   clear p0 q0 q1 q2 q3 q4 q5 q6 q7 q8 q9 q10 q11
   refine (frame_any B wb a1 n1 c1 (xs ++ ys) f w5 HW5.out (fun w' h => HQI.out w' (HB5.out.trans h)) (by have := HSM.out.n; omega) (by omega) hfn hB5).mono ?_
   rintro e w6 ⟨hk6, hr⟩
   have HK6 : Hid (Keeps (wrS B wb a) w w6) := Lib.hid (wrS_trans (Keeps.trans2 HK1.out HK5.out (fun _ _ h => False.elim h)) HN1.out hk6)
   cases he : encQ f.c with
   | none =>
    rw [encO_none he] at hr
    have hr' : e = .panicked [{ v := stopV, recovered := false }] := hr
    subst hr'
    have HNN := Lib.hid (HNO.out he)
    clear he hr hk6
    go_wp2_with fail
    refine ⟨rfl, ?_⟩
    rw [HNN.out]
    exact WrP.panic HK6.out
   | some zs =>
    have h1 : encO (xs ++ ys) f.c = some (xs ++ ys ++ zs) := by unfold encO; rw [he]
    rw [h1] at hr
    obtain ⟨rfl, a6, n6, c6, hw6, hn6⟩ := hr
    have HE6 := Lib.hid (HNX.out zs he)
    have HW6 : Hid (Wr B w6 wb a6 n6 c6 (xs ++ (ys ++ zs))) := Lib.hid (by rw [← List.append_assoc]; exact hw6)
    have HN6 : Hid (Near B w a a6) := Lib.hid (wrS_near HN1.out (Keeps.trans2 HK1.out HK5.out (fun _ _ h => False.elim h)) hn6)
    clear he h1 hk6 hw6 hn6
    obtain ⟨g, rfl⟩ : ∃ g, gk = g + 1 := ⟨gk - 1, by have := HI.out; omega⟩
    go_wp2_with fail
    go_roundg g
    case measure => omega
    case rel => exact ⟨i + 1, a6, n6, c6, ys ++ zs, by go_num, by have := HI.out; omega, HE6.out, HW6.out, HK6.out, HN6.out⟩
  ·have HALL : Hid (encsO xs l = some (xs ++ ys)) := Lib.hid (by
    have h1 := HE.out
    rw [List.take_of_length_le (by have := HI.out; have := HLN.out; omega)] at h1
    unfold encsO
    rw [h1])
   go_wp2_with fail
   go_end0
   rw [HALL.out]
   exact ⟨HK1.out, rfl, a1, n1, c1, HW1.out, HN1.out⟩

end Go.Proofs.Ytgfkgmmigbpciaa

/- Write of the package qframe: the whole. -/
namespace Go.Proofs.Ytgfkgmmigbpciaa
set_option linter.unusedSimpArgs false
set_option linter.unusedVariables false
open Go.RowKit Go.Deep

/-- What Write answers. -/
def WriteP (r : Option (List UInt8)) (w : World) (e : Ending) (w' : World) : Prop :=
 Below w.heap.size w w' ∧ match r with
  | some zs => ∃ a' n' c', e = .returned (.tuple #[.slice a' n' c', .int .i64 0]) ∧ Bo w.heap.size w' a' n' c' zs
  | none => e = .returned (.tuple #[.slice none 0 0, .int .i64 30])
/-- What was tried. -/
def WrR (B wb : Nat) (a : Option Addr) (r : Option (List UInt8)) (w8 : World) (ok : Bool) (w' : World) : Prop :=
 Keeps (wrS B wb a) w8 w' ∧ match r with
  | some zs => ok = true ∧ ∃ a' n' c', Wr B w' wb a' n' c' zs ∧ Near B w8 a a'
  | none => ok = false
theorem wr_tried {B wb n : Nat} {a : Option Addr} {r : Option (List UInt8)} {w8 : World} {e : Ending} {w' : World} (h : WrP B wb a r w8 e w') (hb : Blk w8 n #[.bool false] 4) (hn : ¬ wrS B wb a n) : TriedP n (WrR B wb a r w8) e w' := by
 obtain ⟨h1, h2⟩ := h
 refine ⟨h1.blk hb hn, ?_⟩
 cases r with
 | none => exact .inr ⟨h2, h1, rfl⟩
 | some zs => exact .inl ⟨h2.1, h1, rfl, h2.2⟩

set_option maxRecDepth 100000 in
set_option maxHeartbeats 3200000 in
theorem qwrite_any (a0 : Option Addr) (n0 c0 : Nat) (xs : List UInt8) (la : Option Addr) (ln lc : Nat) (l : List Qf) (w : World) (hb : By w a0 n0 c0 xs) (hl : ∀ w', Below w.heap.size w w' → Qv w' la ln lc l) (hs : ∀ f ∈ l, f.c.Small) (hn : n0 ≤ 100000) (hln : l.length ≤ 100) :
  Calls Try.prog 11 #[.slice a0 n0 c0, .slice la ln lc] w (WriteP (encsO xs l) w) := by
 have HL := Lib.hid hl
 have HS := Lib.hid hs
 have HF0 := Lib.hid (Blk.new w #[.slice la ln lc] 23)
 have HX := Lib.hid (By.alloc hb (.cells #[.slice la ln lc] 23 (0, 0)))
 have HK0 : Hid (Below w.heap.size w (w.alloc (.cells #[.slice la ln lc] 23 (0, 0)))) := Lib.hid ((Below.refl _ _).alloc (Nat.le_refl _) _)
 have hmf : ∀ (fn : Fn) (first cap : Array Value) (w : World), (Instr.makeFunc fn first cap).run Try.prog w = .ok (.func fn first cap) w := fun _ _ _ _ => rfl
 clear hl hs hb
 go_enter Try.func11, Try.ntmps11
 go_wp2_with (at_builtin; refine halt ?_)
 refine Halted.go (wpList_copy8 _ rfl _ rfl a0 n0 c0 xs rfl HX.out (by omega) ?_)
 intro a6 c6 w6 ho6 hk6
 have hs6 : w.heap.size + 1 ≤ w6.heap.size := by have := hk6.size; simpa using this
 have HF6 := Lib.hid ((Below.keeps hk6).blk HF0.out (by simp))
 have HO6 : Hid (Bo w.heap.size w6 a6 n0 c6 xs) := Lib.hid (ho6.mono (by simp))
 have HG6 : Hid (∀ b, a6.map (·.block) = some b → w.heap.size + 1 ≤ b ∧ b < w6.heap.size) := Lib.hid (fun b hb => by have := ho6.ge b hb; simp at this; omega)
 have HK6 := Lib.hid (HK0.out.trans (hk6.mono (by simp)))
 clear ho6 hk6 HX HK0 HF0
 go_wp2_with fail
 refine calls_named ?_
 intro w7 hw7
 have hs7 : w7.heap.size = w6.heap.size + 2 := by rw [← hw7]; simp
 have HPW7 : Hid (Blk w7 (w6.heap.size + 1) #[.pointer (some ⟨w6.heap.size, 0, none⟩)] 59) := Lib.hid (by
  rw [← hw7]
  have h := Blk.new (w6.alloc (.cells #[.slice a6 n0 c6] 61 (0, 0))) #[.pointer (some ⟨w6.heap.size, 0, none⟩)] 59
  rwa [World.size_alloc] at h)
 have HKa : Hid (Keeps (fun _ => False) w6 w7) := Lib.hid (by rw [← hw7]; exact ((Keeps.refl _ w6).alloc _).alloc _)
 have HW7 : Hid (Wr w.heap.size w7 w6.heap.size a6 n0 c6 xs) := Lib.hid ⟨by rw [← hw7]; exact (Blk.new w6 _ _).alloc _, HO6.out.keep HKa.out (fun _ _ h => h), fun b hb => by have := (HG6.out b hb).2; omega, by omega⟩
 have HF7 := Lib.hid (HKa.out.blk HF6.out (fun h => h))
 have HK7 : Hid (Below w.heap.size w w7) := Lib.hid (Keeps.below HK6.out HKa.out (by omega) (fun _ h => False.elim h))
 have HA1 : Hid (¬ wrS w.heap.size w6.heap.size a6 w.heap.size) := Lib.hid (by
  rintro (h | ⟨_, h⟩)
  ·omega
  ·have := (HG6.out _ h).1; omega)
 have HA2 : Hid (¬ wrS w.heap.size w6.heap.size a6 (w6.heap.size + 1)) := Lib.hid (by
  rintro (h | ⟨_, h⟩)
  ·omega
  ·have := (HG6.out _ h).2; omega)
 have HA3 : Hid (¬ wrS w.heap.size w6.heap.size a6 w7.heap.size) := Lib.hid (by
  rintro (h | ⟨_, h⟩)
  ·omega
  ·have := (HG6.out _ h).2; omega)
 have HS7 := Lib.hid hs7
 clear hw7 hs7
 have hk8 : Keeps (fun _ => False) w7 (w7.alloc (.cells #[.bool false] 4 (0, 0))) := (Keeps.refl _ w7).alloc _
 have HK8 := Lib.hid hk8
 clear hk8
 refine (try_any 23 _ w7 (WrR w.heap.size w6.heap.size a6 (encsO xs l) (w7.alloc (.cells #[.bool false] 4 (0, 0)))) (fun _ => rfl)
  ((write1_any w.heap.size w.heap.size (w6.heap.size + 1) w6.heap.size la ln lc l a6 n0 c6 xs _ (HK8.out.blk HF7.out (fun h => h)) (HK8.out.blk HPW7.out (fun h => h)) (HW7.out.same HK8.out)
   (fun w' h => HL.out w' ((Keeps.below HK7.out HK8.out HK7.out.size (fun _ h => False.elim h)).trans h)) HS.out hn hln (Nat.le_trans HK7.out.size HK8.out.size) HA1.out HA2.out).mono (fun e w' h => wr_tried h (Blk.new w7 _ _) HA3.out))).mono ?_
 rintro e w9 ⟨ok, w0, rfl, ⟨hk0, hr⟩, hk9⟩
 have HK0 : Hid (Below w.heap.size w w0) := Lib.hid (wrS_below hk0 (Keeps.below HK7.out HK8.out HK7.out.size (fun _ h => False.elim h)) (Nat.le_trans HK7.out.size HK8.out.size) HW7.out.le)
 have HK9 : Hid (Below w.heap.size w w9) := Lib.hid (Keeps.below HK0.out hk9 HK0.out.size (fun k h => by have := HK7.out.size; omega))
 have HPW0 := Lib.hid (hk9.blk (hk0.blk (HK8.out.blk HPW7.out (fun h => h)) HA2.out) (by have := HS7.out; omega))
 clear hmf
 cases hen : encsO xs l with
 | none =>
  rw [hen] at hr
  have hr' : ok = false := hr
  subst hr'
  have HEN := Lib.hid hen
  clear hr hk0 hk9 hen
  go_wp2_with fail
  go_returns
  refine ⟨HK9.out, ?_⟩
  rw [HEN.out]
  rfl
 | some zs =>
  rw [hen] at hr
  obtain ⟨rfl, a8, n8, c8, hw8, hn8⟩ := hr
  have HW9 := Lib.hid (hw8.keep hk9 (by have := HS7.out; omega) (fun b hb e => by
   have := HS7.out
   have hz : (w7.alloc (.cells #[.bool false] 4 (0, 0))).heap.size = w7.heap.size + 1 := by simp
   rcases hn8 b hb with rfl | ⟨h1, _⟩
   ·have := (HG6.out b hb).2; omega
   ·omega))
  have p0 : w9.cell? ⟨w6.heap.size + 1, 0, none⟩ = some (.pointer (some ⟨w6.heap.size, 0, none⟩)) := HPW0.out.cell 0
  have p1 : w9.cell? ⟨w6.heap.size, 0, none⟩ = some (.slice a8 n8 c8) := HW9.out.k.cell 0
  have HEN := Lib.hid hen
  clear hk0 hk9 hen hw8 hn8
  go_wp2_with fail
  go_returns
  refine ⟨HK9.out, ?_⟩
  rw [HEN.out]
  exact ⟨a8, n8, c8, rfl, HW9.out.o⟩

end Go.Proofs.Ytgfkgmmigbpciaa
