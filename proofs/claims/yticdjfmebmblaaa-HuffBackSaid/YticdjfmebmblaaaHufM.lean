/- The reference's Huffman. -/
import Derived.Test.YticdjfmebmblaaaHufL
import Derived.Deep.RegionLaw
namespace Go.Proofs.Yticdjfmebmblaaa
open Go.RowKit Go.Deep Go.ChangeShapes Go.WideShapes

/-- append as one step of a region that draws. -/
theorem step_app {P : Program} {ops : Array Oper} {o : Oper} {ac : Act} {w : World} {K : Act → World → Prop} {Q : Exit → Act → World → Prop} {E : Prop}
    (hg : o.guard = none) (s x : Operand) (t tx : TypeId) (hop : o.op = Op.call { callee := Callee.builtin Builtin.append, args := #[s, x], argTypes := #[t, tx] }) (base : Nat) (e : TypeId) (i : TypeInfo) (z : Value) (size bytes : Nat)
    (h1 : P.underlying t = some (.slice e)) (h2 : P.info? e = some i) (h3 : i.zero = some z) (h4 : i.size = size) (h5 : i.bytes = bytes) (h6 : z.cells.size = size)
    (a : Option Addr) (n cap : Nat) (cs : List Value) (hs : ac.eval s = .slice a n cap) (hd : Dst base e size w a n cap cs) (u : Value) (hx : ac.eval x = u) (m : Nat) (news : List Value) (hsrc : Src P size tx u m news w)
    (b1 : n + m ≤ maxLen) (b2 : (n + m) * bytes ≤ 140737488355328) (hb : base ≤ w.heap.size)
    (hK : ∀ a' cap' w', Dst base e size w' a' (n + m) cap' (cs ++ news) → Keeps (mine base a) w w' → Near base w a a' →
      (0 < m → w'.ownsRow base e size (.slice a' (n + m) cap') (n + m) (cs ++ news)) → (m = 0 → cap' = cap ∧ a' = a ∧ w' = w) → K (ac.put o.dst (.slice a' (n + m) cap')) w') :
    if Region.wanted o (yielded ops ac.tmps) = true then Oper.wp P o ac w K Q else E := by
  have hw : Region.wanted o (yielded ops ac.tmps) = true := by simp [Region.wanted, hg]
  rw [if_pos hw]
  obtain ⟨a', cap', w', hrun, r1, r2, r3, r4, r5⟩ := run_app (P := P) w base t tx o.type e i z size bytes h1 h2 h3 h4 h5 h6 a n cap cs hd u m news hsrc b1 b2 hb
  unfold Oper.wp
  simp [execOp, hop, resolve, invoke, builtin, hs, hx, hrun, Result.andThen]
  exact hK a' cap' w' r1 r2 r3 r4 r5


theorem mask_pend {A V r : Nat} (hP : Pend A V r) (hA : A < 18446744073709551616) (hr : r < 8) : bits .and .u64 (A : Int) (IntKind.u64.wrap (IntKind.u64.wrap ((2 : Int) ^ r) - 1)) = ((A % 2 ^ r : Nat) : Int) ∧ Pend (A % 2 ^ r) V r ∧ A % 2 ^ r < 18446744073709551616 := by
  refine ⟨?_, ?_, Nat.lt_of_le_of_lt (Nat.mod_le _ _) hA⟩
  · have h7 : (2 : Nat) ^ r ≤ 2 ^ 7 := Nat.pow_le_pow_right (by omega) (by omega)
    have h0 := Nat.two_pow_pos r
    have e1 : IntKind.u64.wrap (IntKind.u64.wrap ((2 : Int) ^ r) - 1) = (2 : Int) ^ r - 1 := by
      rw [← cast_two_pow, IntKind.wrap_u64, IntKind.wrap_u64]
      omega
    rw [e1, and64 r (by omega) (by omega) (by omega) rfl, Int.natCast_emod, cast_two_pow]
  · unfold Pend at hP ⊢
    rw [Nat.mod_mod, hP]

theorem byte_last2 {A V T e r : Nat} (hP : Pend A V r) (h0 : 0 < r) (h8 : r < 8) (hT : T = 8 * e + r) :
    Value.int .u8 (bits .or .u8 (IntKind.u8.wrap (IntKind.u64.wrap ((A : Int) * 2 ^ (8 - r)))) (IntKind.u8.wrap (IntKind.u8.wrap (2 ^ (8 - r)) - 1))) = B (topB (V * 2 ^ (8 - r) + (2 ^ (8 - r) - 1)) (T + (8 - r)) e) := by
  have hq : (2 : Nat) ^ (8 - r) ≤ 2 ^ 7 := Nat.pow_le_pow_right (by omega) (by omega)
  have hq0 := Nat.two_pow_pos (8 - r)
  rw [← byte_last hP h0 h8 hT, IntKind.wrap_u8 (IntKind.u64.wrap _)]
  have e1 : IntKind.u8.wrap (IntKind.u8.wrap ((2 : Int) ^ (8 - r)) - 1) = ((2 : Int) ^ (8 - r) - 1) % 256 := by
    rw [← cast_two_pow, IntKind.wrap_u8, IntKind.wrap_u8]
    omega
  rw [e1]

theorem src_byte_d (w : World) (c : UInt8) (v : Value) (hv : v = B c) : Src Try.prog 1 22 (.slice (some ⟨w.heap.size, 0, none⟩) 1 1) 1 (Bs [c]) (w.alloc (.cells #[v] 5 (0, 0))).drew := by
  subst hv
  refine Src.ofSlice _ Try.underlying22 _ _ _ _ rfl (fun j u hj => ?_) (Bs_one _)
  rw [add_plain, Nat.zero_add, (Blk.new w _ _).drew.cell j]
  simpa [Bs] using hj

set_option maxRecDepth 100000 in
set_option maxHeartbeats 3200000 in
theorem huffr_any (base : Nat) (a : Option Addr) (m cap : Nat) (xs : List UInt8) (s : ByteArray) (w : World) (hd : Bd base w a m cap xs) (hbase : base ≤ w.heap.size) (hab : ∀ b, a.map (·.block) = some b → b < w.heap.size) (hm : m ≤ 1000000) (hs : s.size ≤ 1000000) :
    Calls Try.prog 11 #[.slice a m cap, .string s] w fun e w' => ∃ a' cap', e = .returned (.slice a' (m + sizeN s.data.toList) cap') ∧ Bd base w' a' (m + sizeN s.data.toList) cap' (xs ++ encN s.data.toList) ∧ Keeps (mine base a) w w' ∧ Near base w a a' := by
  have HD := Lib.hid hd
  have HAB := Lib.hid hab
  clear hd hab
  go_enter Try.func11, Try.ntmps11
  go_wp2_with fail
  refine (codesr_any _).mono ?_
  rintro e w2 ⟨cb, rfl, hcb, hbk, hk⟩
  have HC := Lib.hid hbk
  have hkm : Keeps (mine base a) w w2 := ⟨hk.os, hk.tape, hk.output, hk.size, fun k h _ => hk.block k h⟩
  have HK2 := Lib.hid hkm
  have HD2 : Hid (Bd base w2 a m cap xs) := HD.out.keep (Below.keeps hk) (fun b hb h => by have := HAB.out b hb; omega)
  have HNE : Hid (∀ b, a.map (·.block) = some b → b ≠ cb) := fun b hb => by have := HAB.out b hb; omega
  have hbase2 : base ≤ w2.heap.size := Nat.le_trans hbase hk.size
  clear hbk hk hkm
  go_wp2_with fail
  go_loopg [0, 6, 7, 8] s.size (fun k vo va vn vi wr => ∃ (j A e r : Nat) (a' : Option Addr) (cap' : Nat), k + j = s.size ∧ vi = .int .i64 j ∧ va = .int .u64 A ∧ A < 18446744073709551616 ∧ vn = .int .i64 r ∧ r < 8 ∧ encT s.data.toList j = 8 * e + r ∧
    Pend A (encV s.data.toList j) r ∧ vo = .slice a' (m + e) cap' ∧ Bd base wr a' (m + e) cap' (xs ++ topsB (encV s.data.toList j) (encT s.data.toList j) e) ∧ Blk wr cb (Cs prL) 39 ∧ Keeps (mine base a) w wr ∧ Near base w a a' ∧ (∀ b, a'.map (·.block) = some b → b ≠ cb))
  case atStart => exact ⟨0, 0, 0, 0, a, cap, rfl, rfl, rfl, by omega, rfl, by omega, rfl, rfl, rfl, by simpa [topsB] using HD2.out, HC.out, HK2.out, Near.refl _ _ _, HNE.out⟩
  case round =>
    obtain ⟨j, A, e, r, a2, c2, hj, rfl, rfl, hA, rfl, hr, hT, hP, rfl, ho, hc, hk, hnr, hn⟩ := hrel
    have HJ := Lib.hid hj
    have HT := Lib.hid hT
    have HP := Lib.hid hP
    have HO := Lib.hid ho
    have HCC := Lib.hid hc
    have HK := Lib.hid hk
    have HN := Lib.hid hn
    have HNR := Lib.hid hnr
    clear hj hT hP ho hc hk hn hnr
    by_cases hlt : j < s.size
    · have hx := u8_lt s[j]
      have hg := Cs_get prL s[j].toNat (by rw [prL, prS_length]; exact hx)
      rw [prL_get _ hx, Nat.mul_comm 2] at hg
      have d1 : wr.cell? ⟨cb, s[j].toNat * 2, none⟩ = some (.int .u32 ((codeN s[j].toNat : Nat) : Int)) := by rw [HCC.out.cell, hg.1]
      have d2 : wr.cell? ⟨cb, s[j].toNat * 2 + 1, none⟩ = some (.int .i64 ((lenN s[j].toNat : Nat) : Int)) := by rw [HCC.out.cell, hg.2]
      have HTS : Hid (encT s.data.toList (j + 1) = encT s.data.toList j + lenN s[j].toNat) := by
        show encT s.data.toList j + _ = _
        rw [byte_get s j hlt]
      have HVS : Hid (encV s.data.toList (j + 1) = encV s.data.toList j * 2 ^ lenN s[j].toNat + codeN s[j].toNat) := by
        show encV s.data.toList j * _ + _ = _
        rw [byte_get s j hlt]
      have hy := (code_ok _ hx).2.1
      have HCL := Lib.hid (code_lt hx)
      have hp : 2 ^ lenN s[j].toNat ≤ 2 ^ 30 := Nat.pow_le_pow_right (by omega) hy
      have hcb1 : codeN s[j].toNat < 1073741824 := Nat.lt_of_lt_of_le HCL.out hp
      have hx0 : (0 : Int) ≤ (s[j].toNat : Int) := by omega
      have hx1 : (s[j].toNat : Int) < 257 := by omega
      clear hg hp
      generalize codeN s[j].toNat = c at *
      generalize lenN s[j].toNat = l at *
      have hl0 : (0 : Int) ≤ (l : Int) := by omega
      have hl30 : (l : Int) ≤ 30 := by omega
      go_wp2_with fail
      have hwc : IntKind.u64.wrap (c : Int) = (c : Int) := by rw [IntKind.wrap_u64]; omega
      have hwr : IntKind.i64.wrap ((r : Int) + (l : Int)) = (r : Int) + (l : Int) := IntWalk.i64_in _ (by omega)
      go_quiet (fail)
      obtain ⟨hA', hP', hbits⟩ := acc_next HP.out hr hy HCL.out
      rw [← HVS.out] at hP'
      go_wp2_with fail
      rw [hbits, show (r : Int) + (l : Int) = ((r + l : Nat) : Int) by simp]
      have hT' : encT s.data.toList (j + 1) = 8 * e + (r + l) := by rw [HTS.out, HT.out]; omega
      have ht := topsB_ext (encV s.data.toList j) (encT s.data.toList j) l c e HCL.out (by have := HT.out; omega)
      rw [← HVS.out, ← HTS.out] at ht
      have HO' := Lib.hid (((HO.out.keep (S := fun _ => False) ((Keeps.refl _ wr).alloc (.cells #[.int .u32 (c : Int), .int .i64 (l : Int)] 39 (0, 0))) (fun _ _ h => h)).keep (S := fun _ => False) ((Keeps.refl _ _).drewN nq) (fun _ _ h => h)))
      rw [← ht] at HO'
      have HC' := Lib.hid ((HCC.out.alloc (.cells #[.int .u32 (c : Int), .int .i64 (l : Int)] 39 (0, 0))).drewN nq)
      have HK' := Lib.hid ((HK.out.alloc (.cells #[.int .u32 (c : Int), .int .i64 (l : Int)] 39 (0, 0))).drewN nq)
      have HT' := Lib.hid hT'
      have HP2 := Lib.hid hP'
      clear d1 d2 hbits hwc hwr ht hT' hP' HVS HTS HCL HO HCC HK HP HT
      generalize A * 2 ^ l % 18446744073709551616 + c = A' at *
      obtain ⟨V, hV⟩ : ∃ V, V = encV s.data.toList (j + 1) := ⟨_, rfl⟩
      obtain ⟨T, hTe⟩ : ∃ T, T = encT s.data.toList (j + 1) := ⟨_, rfl⟩
      have hTb : T ≤ 30 * (j + 1) := by rw [hTe]; exact encT_le _ _
      rw [← hV] at HP2 HO'
      rw [← hTe] at HT' HO'
      have HVE := Lib.hid hV
      have HTE := Lib.hid hTe
      clear hV hTe
      obtain ⟨q0, hq0⟩ : ∃ q, q = r + l := ⟨_, rfl⟩
      have hq37 : q0 ≤ 37 := by omega
      rw [← hq0] at HT' HP2 ⊢
      clear hq0
      generalize (wr.alloc (.cells #[.int .u32 (c : Int), .int .i64 (l : Int)] 39 (0, 0))).drewN nq = w5 at *
      obtain ⟨g, rfl⟩ : ∃ g, gk = g + 1 := ⟨gk - 1, by have := HJ.out; omega⟩
      go_loopg [0, 7] q0 (fun k vo vn wq => ∃ (e' q : Nat) (a' : Option Addr) (cap' : Nat), k = q ∧ vn = .int .i64 q ∧ T = 8 * e' + q ∧ q ≤ q0 ∧ vo = .slice a' (m + e') cap' ∧
        Bd base wq a' (m + e') cap' (xs ++ topsB V T e') ∧ Blk wq cb (Cs prL) 39 ∧ Keeps (mine base a) w wq ∧ Near base w a a' ∧ (∀ b, a'.map (·.block) = some b → b ≠ cb))
      case atStart => exact ⟨e, q0, a2, c2, rfl, rfl, HT'.out, Nat.le_refl _, rfl, HO'.out, HC'.out, HK'.out, HNR.out, HN.out⟩
      case round =>
        obtain ⟨e', q, a3, c3, rfl, rfl, ht, hq, rfl, ho, hc, hk, hnr, hn⟩ := hrel
        have HTT := Lib.hid ht
        have HO := Lib.hid ho
        have HCC := Lib.hid hc
        have HK := Lib.hid hk
        have HN3 := Lib.hid hn
        have HNR3 := Lib.hid hnr
        clear ht ho hc hk hn hnr
        by_cases h8 : 8 ≤ gk
        · have hq8 : (8 : Int) ≤ (gk : Int) := by omega
          have hq9 : (gk : Int) ≤ 37 := by omega
          go_wp2_with (at_builtin; refine halt ?_)
          have hbw : base ≤ wr.heap.size := by have := HK.out.size; omega
          refine Halted.go (wpList_push8 wr rfl _ _ (topB V T e') _ (byte_top (pend_le HP2.out hq) h8 HTT.out) rfl base a3 (m + e') c3 (xs ++ topsB V T e') rfl HO.out rfl (by have := HTT.out; omega) hbw ?_)
          intro a4 c4 w6 ho6 hk6 hf6
          have HO6 := Lib.hid ho6.bd
          have HK6 := Lib.hid (Keeps.step HK.out HNR3.out hk6)
          have HNR6 := Lib.hid (Near.step HNR3.out HK.out hf6)
          have HC6 := Lib.hid (hk6.blk HCC.out (fun h => HN3.out _ h.2 rfl))
          have HN6 : Hid (∀ b, a4.map (·.block) = some b → b ≠ cb) := by
            intro b hb
            rcases hf6 b hb with h | h
            · rw [h] at hb; exact HN3.out b hb
            · have := HCC.out.lt; omega
          clear ho6 hk6 hf6 hbw
          go_wp2_with fail
          go_roundg (gk - 8)
          case measure => omega
          case rel =>
            refine ⟨e' + 1, gk - 8, a4, c4, rfl, by go_num, by have := HTT.out; omega, by omega, rfl, ?_, HC6.out, HK6.out, HNR6.out, HN6.out⟩
            have := HO6.out
            rwa [List.append_assoc, ← topsB_succ] at this
        · have hg7 : (gk : Int) < 8 := by omega
          obtain ⟨mb, mp, ml⟩ := mask_pend (pend_le HP2.out hq) hA' (show gk < 8 by omega)
          have MB := Lib.hid mb
          have MP := Lib.hid mp
          have ML := Lib.hid ml
          clear mb mp ml
          go_wp2_with (go_roundg g; (case measure => omega); (case rel =>
            refine ⟨j + 1, A' % 2 ^ gk, e', gk, a3, c3, by have := HJ.out; omega, by go_num, by rw [MB.out], ML.out, rfl, by omega, by rw [← HTE.out]; exact HTT.out, by rw [← HVE.out]; exact MP.out, rfl, ?_, HCC.out, HK.out, HNR3.out, HN3.out⟩
            rw [← HVE.out, ← HTE.out]
            exact HO.out))
    · obtain rfl : j = s.size := by have := HJ.out; omega
      have hsl := bytes_length s
      have HEN : Hid (r = 0 → encN s.data.toList = topsB (encV s.data.toList s.size) (encT s.data.toList s.size) e ∧ sizeN s.data.toList = e) := by
        intro h0
        have h1 := HT.out
        have h2 : sizeN s.data.toList = e := by rw [sizeN, hsl]; omega
        have h3 : padN (encT s.data.toList s.size) = 0 := by unfold padN; omega
        refine ⟨?_, h2⟩
        rw [encN, h2, fullV, hsl, h3, show 8 * e = encT s.data.toList s.size by omega]
        simp
      have HEP : Hid (0 < r → encN s.data.toList = topsB (encV s.data.toList s.size) (encT s.data.toList s.size) e ++ [topB (encV s.data.toList s.size * 2 ^ (8 - r) + (2 ^ (8 - r) - 1)) (encT s.data.toList s.size + (8 - r)) e] ∧ sizeN s.data.toList = e + 1) := by
        intro h0
        have h1 := HT.out
        have h2 : sizeN s.data.toList = e + 1 := by rw [sizeN, hsl]; omega
        have h3 : padN (encT s.data.toList s.size) = 8 - r := by unfold padN; omega
        have hq0 := Nat.two_pow_pos (8 - r)
        refine ⟨?_, h2⟩
        rw [encN, h2, fullV, hsl, h3, show 8 * (e + 1) = encT s.data.toList s.size + (8 - r) by omega, topsB_succ, topsB_ext _ _ _ _ _ (by omega) (by omega)]
      have htb := encT_le s.data.toList s.size
      clear hsl hlt
      by_cases h0 : r = 0
      · obtain ⟨E1, E2⟩ := HEN.out h0
        have HE1 := Lib.hid E1
        have HE2 := Lib.hid E2
        subst h0
        clear E1 E2
        go_wp2_with (go_returns; refine halt ?_)
        exact ⟨a2, c2, ⟨rfl, HE2.out.symm, rfl⟩, by rw [HE1.out, HE2.out]; exact HO.out, HK.out, HNR.out⟩
      · obtain ⟨E1, E2⟩ := HEP.out (by omega)
        have HE1 := Lib.hid E1
        have HE2 := Lib.hid E2
        have hr0 : (0 : Int) < (r : Int) := by omega
        have hr7 : (r : Int) ≤ 7 := by omega
        have hem : m + e + 1 ≤ 140737488355328 := by have := HT.out; omega
        clear E1 E2
        obtain ⟨i, hi, hz, hs1, hs2⟩ := info_parts info8
        have HI := Lib.hid hi
        have HZ := Lib.hid hz
        have HZ1 := Lib.hid hs1
        have HZ2 := Lib.hid hs2
        clear hi hz hs1 hs2
        go_wp2_with fail
        have hw8 : IntKind.i64.wrap (8 - (r : Int)) = 8 - (r : Int) := IntWalk.i64_in _ (by omega)
        have hw9 : (0 : Int) ≤ 8 - (r : Int) := by omega
        have hw10 : (8 - (r : Int)).toNat = 8 - r := by omega
        have hbv := byte_last2 HP.out (by omega) hr HT.out
        obtain ⟨cc, hcc⟩ : ∃ cc, cc = topB (encV s.data.toList s.size * 2 ^ (8 - r) + (2 ^ (8 - r) - 1)) (encT s.data.toList s.size + (8 - r)) e := ⟨_, rfl⟩
        rw [← hcc] at hbv HE1
        have HBV := Lib.hid hbv
        have hszd : base ≤ (wr.alloc (.cells #[.int .u8 (bits .or .u8 (IntKind.u8.wrap (IntKind.u64.wrap ((A : Int) * 2 ^ (8 - r)))) (IntKind.u8.wrap (IntKind.u8.wrap (2 ^ (8 - r)) - 1)))] 5 (0, 0))).drew.heap.size := by
          show base ≤ (wr.alloc _).heap.size
          have := HK.out.size
          simp
          omega
        have HSZ := Lib.hid hszd
        have HDS := Lib.hid ((HO.out.2.alloc (.cells #[.int .u8 (bits .or .u8 (IntKind.u8.wrap (IntKind.u64.wrap ((A : Int) * 2 ^ (8 - r)))) (IntKind.u8.wrap (IntKind.u8.wrap (2 ^ (8 - r)) - 1)))] 5 (0, 0))).keep (S := fun _ => False) ((Keeps.refl _ _).drew) (fun _ _ h => h))
        clear hbv hcc hszd
        go_region_law ((refine step_app (by rfl) _ _ 22 22 (by rfl) base 5 i _ 1 1 Try.underlying22 HI.out HZ.out HZ1.out HZ2.out rfl a2 (m + e) c2 (Bs (xs ++ topsB (encV s.data.toList s.size) (encT s.data.toList s.size) e)) (by rfl) HDS.out (.slice (some ⟨wr.heap.size, 0, none⟩) 1 1) (by rfl) 1 (Bs [cc]) (src_byte_d wr cc _ HBV.out) (by unfold maxLen; omega) (by omega) HSZ.out ?_; intro a4 c4 w6 ho6 hk6 hf6 _ _))
        have ho7 : Bd base w6 a4 (m + e + 1) c4 (xs ++ topsB (encV s.data.toList s.size) (encT s.data.toList s.size) e ++ [cc]) := by
          refine ⟨?_, by rwa [Bs_append] at ho6⟩
          have := HO.out.1
          rw [List.length_append, ← this]
          rfl
        have HO7 := Lib.hid ho7
        have HK7 := Lib.hid (Keeps.step ((HK.out.alloc (.cells #[.int .u8 (bits .or .u8 (IntKind.u8.wrap (IntKind.u64.wrap ((A : Int) * 2 ^ (8 - r)))) (IntKind.u8.wrap (IntKind.u8.wrap (2 ^ (8 - r)) - 1)))] 5 (0, 0))).drew) HNR.out hk6)
        have HN7 := Lib.hid (Near.step HNR.out ((HK.out.alloc (.cells #[.int .u8 (bits .or .u8 (IntKind.u8.wrap (IntKind.u64.wrap ((A : Int) * 2 ^ (8 - r)))) (IntKind.u8.wrap (IntKind.u8.wrap (2 ^ (8 - r)) - 1)))] 5 (0, 0))).drew) hf6)
        clear ho6 hk6 hf6 ho7 htb
        go_wp2_with (go_returns; refine halt ?_)
        exact ⟨a4, c4, ⟨rfl, by rw [HE2.out]; rfl, rfl⟩, by rw [HE1.out, HE2.out, ← List.append_assoc]; exact HO7.out, HK7.out, HN7.out⟩

end Go.Proofs.Yticdjfmebmblaaa
