/- The walk of QframeAcks. -/
import Derived.Test.YtgfkgmmigbpciaaQrM
import Derived.Test.YtgfkgmmigbpciaaQrO
namespace Go.Proofs.Ytgfkgmmigbpciaa
open Go.RowKit Go.Deep

theorem and62Q (t : Int) (h0 : 0 ≤ t) (h1 : t ≤ 18446744073709551615) : bits .and .u64 t 4611686018427387903 = t % 4611686018427387904 := by
  have := and64 62 (a := t) (m := 4611686018427387903) h0 (by omega) (by omega) (by simp)
  rw [this]
  simp
/-- Numbers of two bytes in memory. -/
def U16v (w : World) (a : Option Addr) (n cap : Nat) (l : List Int) : Prop := n = l.length ∧ Vw w a n cap 1 (l.map (.int .u16))
theorem Arg.u16s {w : World} {v : Value} (h : Arg Try.prog w 52 v) : ∃ a n cap l, v = .slice a n cap ∧ (∀ x ∈ l, 0 ≤ x ∧ x ≤ 65535) ∧ ∀ w', Below w.heap.size w w' → U16v w' a n cap l := by
  obtain ⟨a, len, cap, V, rfl, hl, hm, hs, hv⟩ := (h.rd_slice Try.underlying52).row Try.underlying52 (by kernel_rfl)
  have each : ∀ i, i < len → ∃ c : Int, V i 0 = .int .u16 c ∧ 0 ≤ c ∧ c ≤ 65535 := by
    intro i hi
    obtain ⟨n, hn, hw⟩ := (hv i (by omega)).int Try.underlying41
    have := wf_u16_iff hw
    exact ⟨n, hn, this.1, by have := this.2; omega⟩
  obtain ⟨l, h1, h2⟩ := list_ofR (fun (c : Int) (W : Nat → Value) => W 0 = .int .u16 c ∧ 0 ≤ c ∧ c ≤ 65535) V len each
  refine ⟨a, len, cap, l, rfl, fun x hx => ?_, fun w' hb => ⟨h1.symm, Seen.vw hl hm (hs.keep hb (Nat.le_refl _)) h1 (fun i hi => (h2 i hi).1)⟩⟩
  obtain ⟨i, hi, rfl⟩ := List.getElem_of_mem hx
  exact (h2 i hi).2
theorem U16v.get {w : World} {a : Option Addr} {n cap : Nat} {l : List Int} (h : U16v w a n cap l) (hn : 0 < n) : ∃ b off, a = some ⟨b, off, none⟩ ∧ ∀ i (hi : i < l.length), w.cell? ⟨b, off + i, none⟩ = some (.int .u16 l[i]) := by
  rcases h.2.at_ with h0 | ⟨b, off, ha, hb, hc⟩
  · have h1 := h.1
    have h2 : l = [] := by simpa using h0
    subst h2
    simp at h1
    omega
  · exact ⟨b, off, ha, fun i hi => hc i _ (by simp [hi])⟩

/-- Where the next range may end. -/
def chainEnd : Int → List (Int × Int) → Int
  | lim, [] => lim
  | _, r :: rest => chainEnd (r.1 - 2) rest
theorem chainEnd_snoc : ∀ (l : List (Int × Int)) (lim : Int) (r : Int × Int), chainEnd lim (l ++ [r]) = r.1 - 2
  | [], _, _ => rfl
  | _ :: l, _, r => chainEnd_snoc l _ r
theorem chainB_snoc : ∀ (l : List (Int × Int)) (lim : Int) (r : Int × Int), chainB lim l = true → r.1 ≤ r.2 → r.2 ≤ chainEnd lim l → chainB lim (l ++ [r]) = true
  | [], lim, r, _, h1, h2 => by
    show (decide (r.1 ≤ r.2) && decide (r.2 ≤ lim) && chainB (r.1 - 2) []) = true
    rw [decide_eq_true h1, decide_eq_true (show r.2 ≤ lim from h2)]; rfl
  | s :: l, lim, r, h, h1, h2 => by
    have h' : (decide (s.1 ≤ s.2) && decide (s.2 ≤ lim) && chainB (s.1 - 2) l) = true := h
    rw [Bool.and_eq_true] at h'
    show (decide (s.1 ≤ s.2) && decide (s.2 ≤ lim) && chainB (s.1 - 2) (l ++ [r])) = true
    rw [h'.1, chainB_snoc l (s.1 - 2) r h'.2 h1 h2]; rfl
def okA (n : Nat) (delay : Int) : Bool := decide (0 < n) && (decide (n ≤ 32) && decide (delay ≤ 4611686018427387903))
theorem okA_no {rs : List (Int × Int)} {delay : Int} (h : okA rs.length delay = false) : encQ ⟨2, 0, 0, false, 0, 0, delay, rs, [], false, false, 0⟩ = none := by
  cases ho : ackOK rs with
  | false =>
    exact encQ_none (by show ¬ (2 : Int) = 0; omega) (by rw [plan_2 rfl]; show (if ackOK rs = true then _ else _) = _; rw [ho]; rfl)
  | true =>
    have hk := ho
    unfold ackOK at hk
    simp only [Bool.and_eq_true, decide_eq_true_eq] at hk
    unfold okA at h
    simp only [Bool.and_eq_false_iff, decide_eq_false_iff_not] at h
    refine encQ_bad (l := ackL delay rs) (tl := []) (by show ¬ (2 : Int) = 0; omega) (by rw [plan_2 rfl]; show (if ackOK rs = true then _ else _) = _; rw [ho]; rfl) ?_
    cases rs with
    | nil => simp at hk
    | cons r rest =>
      unfold ackL varsOK
      simp only [List.all_cons, Bool.and_eq_false_iff, decide_eq_false_iff_not]
      right; right; left
      omega
theorem Ra.nil (base : Nat) (w : World) : Ra base w none 0 0 [] := ⟨rfl, World.ownsRow_nil _ _ _ _⟩
theorem gapsA_ok : ∀ (rs : List (Int × Int)) (f : Int), f ≤ 4611686018427387903 → (∀ r ∈ rs, 0 ≤ r.1 ∧ r.1 ≤ r.2 ∧ r.2 ≤ 4611686018427387903) → varsOK (gapsL f rs) = true
  | [], _, _, _ => rfl
  | r :: rest, f, hf, h => by
    have h0 := h r List.mem_cons_self
    have hi := gapsA_ok rest r.1 (by omega) (fun s hs => h s (List.mem_cons_of_mem _ hs))
    unfold varsOK at hi
    unfold gapsL varsOK
    simp only [List.all_cons, Bool.and_eq_true, decide_eq_true_eq]
    exact ⟨by omega, by omega, hi⟩
theorem okA_yes {rs : List (Int × Int)} {delay : Int} (h : okA rs.length delay = true) (hc : chainB 4611686018427387903 rs = true) (hr : ∀ r ∈ rs, 0 ≤ r.1 ∧ r.1 ≤ r.2 ∧ r.2 ≤ 4611686018427387903) : ∃ ys, encQ ⟨2, 0, 0, false, 0, 0, delay, rs, [], false, false, 0⟩ = some ys := by
  unfold okA at h
  simp only [Bool.and_eq_true, decide_eq_true_eq] at h
  have ho : ackOK rs = true := by
    unfold ackOK
    simp only [Bool.and_eq_true, decide_eq_true_eq]
    exact ⟨by omega, hc⟩
  refine ⟨_, encQ_some (l := ackL delay rs) (tl := []) (by show ¬ (2 : Int) = 0; omega) (by rw [plan_2 rfl]; show (if ackOK rs = true then _ else _) = _; rw [ho]; rfl) ?_⟩
  cases rs with
  | nil => simp at h
  | cons r rest =>
    have h0 := hr r List.mem_cons_self
    have hg := gapsA_ok rest r.1 (by omega) (fun s hs => hr s (List.mem_cons_of_mem _ hs))
    unfold varsOK at hg
    rw [List.length_cons] at h
    unfold ackL varsOK
    simp only [List.all_cons, Bool.and_eq_true, decide_eq_true_eq]
    exact ⟨by omega, by omega, by omega, by omega, by omega, hg⟩
theorem enc_one_noneA {f : Qf} (h : encQ f.c = none) : encsO [] [f] = none := by unfold encsO; simp [encsQ, h]
theorem enc_one_someA {f : Qf} {ys : List UInt8} (h : encQ f.c = some ys) : encsO [] [f] = some ys := by unfold encsO; simp [encsQ, h]
/-- Write answers, whatever it be. -/
theorem WriteP.any {r : Option (List UInt8)} {w : World} {e : Ending} {w' : World} (h : WriteP r w e w') : ∃ a n c E, e = .returned (.tuple #[.slice a n c, .int .i64 E]) := by
  cases r with
  | none => exact ⟨_, _, _, _, h.2⟩
  | some zs => obtain ⟨_, a, n, c, rfl, _⟩ := h; exact ⟨_, _, _, _, rfl⟩

set_option maxRecDepth 100000 in
set_option maxHeartbeats 12800000 in
theorem walkQframeAcks (w : World) (first : Int) (w0 : (Lit.int .u64 first).wf = true) (v1 : Value) (h1 : Arg Try.prog w 52 v1) (v2 : Value) (h2 : Arg Try.prog w 52 v2) (delay : Int) (w3 : (Lit.int .u64 delay).wf = true) :
    Calls Try.prog 7 #[.int .u64 first, v1, v2, .int .u64 delay] w fun e w' => e = .returned (.bool true) ∧ Below w.heap.size w w' := by
  obtain ⟨f0, f1⟩ := wf_u64_iff w0
  obtain ⟨d0, d1⟩ := wf_u64_iff w3
  obtain ⟨ga, n, gc, gl, rfl, hgl, hgv⟩ := h1.u16s
  obtain ⟨la, m, lc, ll, rfl, hll, hlv⟩ := h2.u16s
  have HGL := Lib.hid hgl
  have HLL := Lib.hid hll
  have HGV := Lib.hid hgv
  have HLV := Lib.hid hlv
  have HGN := Lib.hid (hgv w (Below.refl _ _)).1
  have HLN := Lib.hid (hlv w (Below.refl _ _)).1
  have HDL : Hid (inU delay) := Lib.hid ⟨d0, by omega⟩
  obtain ⟨A0, hA0⟩ : ∃ A0, bits .and .u64 first 4611686018427387903 = A0 := ⟨_, rfl⟩
  have HA0 : Hid (0 ≤ A0 ∧ A0 ≤ 4611686018427387903) := Lib.hid (by rw [← hA0, and62Q first f0 (by omega)]; omega)
  clear hgl hll hgv hlv h1 h2 w0 w3
  go_enter Try.func7, Try.ntmps7
  go_wp2_with fail
  refine (known_any w).mono ?_
  rintro e w1 ⟨rfl, hk1⟩
  have HK1 := Lib.hid hk1
  clear hk1
  by_cases hn : n ≤ 40
  rotate_left
  · have hd : decide ((40 : Int) < (n : Int)) = true := by simp; omega
    have hd2 : decide (40 < n) = true := by simp; omega
    clear hn
    go_wp2_with fail
    go_returns
    exact ⟨rfl, HK1.out⟩
  have hd : decide ((40 : Int) < (n : Int)) = false := by simp; omega
  have hd2 : decide (40 < n) = false := by simp; omega
  by_cases hm : n ≤ m
  rotate_left
  · have hd3 : decide ((m : Int) < (n : Int)) = true := by simp; omega
    have hd4 : decide (m < n) = true := by simp; omega
    clear hn hm
    go_wp2_with fail
    go_returns
    exact ⟨rfl, HK1.out⟩
  have hd3 : decide ((m : Int) < (n : Int)) = false := by simp; omega
  have hd4 : decide (m < n) = false := by simp; omega
  go_upto_region 7 with fail
  clear hd hd2 hd3 hd4 hA0
  go_cut [11] (fun v11 wx => v11 = .bool (okA n delay) ∧ w1 = wx)
  case first =>
    by_cases h1 : 0 < n
    · have t1 : decide ((0 : Int) < (n : Int)) = true := by simp; omega
      have t1' : decide (0 < n) = true := by simp; omega
      by_cases h2 : n ≤ 32
      · have t2 : decide ((n : Int) ≤ 32) = true := by simp; omega
        have t2' : decide (n ≤ 32) = true := by simp; omega
        have HO : Hid (okA n delay = decide (delay ≤ 4611686018427387903)) := Lib.hid (by unfold okA; rw [t1', t2']; rfl)
        clear h1 h2 hn hm
        go_wp2_with fail
        go_meet
        rw [HO.out]
        exact ⟨rfl, rfl⟩
      · have t2 : decide ((n : Int) ≤ 32) = false := by simp; omega
        have t2' : decide (n ≤ 32) = false := by simp; omega
        have HO : Hid (okA n delay = false) := Lib.hid (by unfold okA; rw [t1', t2']; rfl)
        clear h1 h2 hn hm
        go_wp2_with fail
        go_meet
        rw [HO.out]
        exact ⟨rfl, rfl⟩
    · have t1 : decide ((0 : Int) < (n : Int)) = false := by simp; omega
      have t1' : decide (0 < n) = false := by simp; omega
      have HO : Hid (okA n delay = false) := Lib.hid (by unfold okA; rw [t1']; rfl)
      clear h1 hn hm
      go_wp2_with fail
      go_meet
      rw [HO.out]
      exact ⟨rfl, rfl⟩
  case rest =>
    obtain ⟨rfl, rfl⟩ := hcut
    obtain ⟨OK, hOK⟩ : ∃ OK, okA n delay = OK := ⟨_, rfl⟩
    have HOK := Lib.hid hOK
    rw [hOK]
    clear hOK
    go_wp2_with fail
    go_loopg [9, 10, 11, 12] n (fun k v9 v10 v11 v12 wr => ∃ (i : Nat) (A : Int) (al : Option Addr) (cl : Nat) (rl : List (Int × Int)), v9 = .int .u64 A ∧ v10 = .slice al i cl ∧ v11 = .bool OK ∧ v12 = .int .i64 (i : Int) ∧ k + i = n ∧ Ra w1.heap.size wr al i cl rl ∧ chainB 4611686018427387903 rl = true ∧ (∀ r ∈ rl, 0 ≤ r.1 ∧ r.1 ≤ r.2 ∧ r.2 ≤ 4611686018427387903) ∧ (i < n → 0 ≤ A ∧ A ≤ chainEnd 4611686018427387903 rl ∧ A ≤ 4611686018427387903) ∧ Below w.heap.size w wr ∧ w1.heap.size ≤ wr.heap.size)
    case atStart => exact ⟨0, A0, none, 0, [], rfl, rfl, rfl, rfl, by omega, Ra.nil _ _, rfl, (fun r hr => (by cases hr)), fun _ => ⟨HA0.out.1, HA0.out.2, HA0.out.2⟩, HK1.out, Nat.le_refl _⟩
    case round =>
      obtain ⟨i, A, al, cl, rl, rfl, rfl, rfl, rfl, hki, hra, hch, hrl, hA, hkw, hsz⟩ := hrel
      have HKI := Lib.hid hki
      have HRA := Lib.hid hra
      have HCH := Lib.hid hch
      have HRL := Lib.hid hrl
      have HA := Lib.hid hA
      have HKW := Lib.hid hkw
      have HSZ := Lib.hid hsz
      clear hki hra hch hrl hA hkw hsz
      by_cases hin : i < n
      · obtain ⟨k, rfl⟩ : ∃ k, gk = k + 1 := ⟨gk - 1, by have := HKI.out; omega⟩
        have hA := HA.out hin
        have hig : i < gl.length := by have := HGN.out; omega
        have hil : i < ll.length := by have := HLN.out; omega
        obtain ⟨bg, og, rfl, hcg⟩ := (HGV.out wr HKW.out).get (by omega)
        obtain ⟨bl, ol, rfl, hcl⟩ := (HLV.out wr HKW.out).get (by omega)
        have cg := hcg i hig
        have cl' := hcl i hil
        have HG := Lib.hid (HGL.out _ (List.getElem_mem hig))
        have HL := Lib.hid (HLL.out _ (List.getElem_mem hil))
        clear hcg hcl
        generalize gl[i] = G at *
        generalize ll[i] = N at *
        have hz0 : (0 : Int) ≤ (i : Int) := by omega
        have hz1 : (i : Int) < (n : Int) := by omega
        have hz2 : (i : Int) < (m : Int) := by omega
        have hA0 := hA.1
        have hA2 := hA.2.2
        have HAE : Hid (A ≤ chainEnd 4611686018427387903 rl) := Lib.hid hA.2.1
        have hG0 := HG.out.1
        have hG1 := HG.out.2
        have hN0 := HL.out.1
        have hN1 := HL.out.2
        have hwg : IntKind.u64.wrap G = G := by rw [IntKind.wrap_u64]; omega
        have hwn : IntKind.u64.wrap N = N := by rw [IntKind.wrap_u64]; omega
        have hwg2 : IntKind.u64.wrap (G + 2) = G + 2 := by rw [IntKind.wrap_u64]; omega
        clear hA
        go_wp2_with fail
        go_region_held3 (fun w' => w'.cell? ⟨bg, og + i, none⟩ = some (.int .u16 G) ∧ w'.cell? ⟨bl, ol + i, none⟩ = some (.int .u16 N)) (first | exact ⟨cg, cl'⟩ | go_keep) (fail)
        go_upto_region 12 with fail
        refine wp_named ?_
        intro w4 hw4
        have HK4 : Hid (Below w.heap.size w w4) := Lib.hid (by rw [← hw4]; exact HKW.out.drew)
        have HRA4 : Hid (Ra w1.heap.size w4 al i cl rl) := Lib.hid (by rw [← hw4]; exact HRA.out.keep ((Keeps.refl (fun _ => False) _).drew) (fun _ _ h => h))
        have HSZ4 : Hid (w1.heap.size ≤ w4.heap.size) := Lib.hid (by rw [← hw4]; exact HSZ.out)
        clear hw4 cg cl'
        by_cases hna : N ≤ A
        rotate_left
        · have hgt : decide (A < N) = true := by simp; omega
          have hgt2 : A < N := by omega
          clear hna
          go_wp2_with fail
          refine calls_named ?_
          intro w6 hw6
          have HK6 : Hid (Below w4.heap.size w4 w6) := Lib.hid (by rw [← hw6]; exact ((Below.refl _ _).alloc (Nat.le_refl _) _).alloc (by simp) _)
          have HKW6 : Hid (Below w.heap.size w w6) := Lib.hid (HK4.out.trans (HK6.out.mono HK4.out.size))
          have HF6 : Hid (Blk w6 w4.heap.size #[.int .u64 2, .int .u64 0, .int .u64 0, .bool false, .int .u64 0, .int .u64 0, .int .u64 delay, .slice al i cl, .slice none 0 0, .bool false, .bool false, .int .i64 0] 32) := Lib.hid (by rw [← hw6]; exact (Blk.new _ _ _).alloc _)
          have HR6 : Hid (Blk w6 (w4.heap.size + 1) #[.int .u64 2, .int .u64 0, .int .u64 0, .bool false, .int .u64 0, .int .u64 0, .int .u64 delay, .slice al i cl, .slice none 0 0, .bool false, .bool false, .int .i64 0] 32) := Lib.hid (by
            rw [← hw6]
            have h := Blk.new (w4.alloc (.cells #[.int .u64 2, .int .u64 0, .int .u64 0, .bool false, .int .u64 0, .int .u64 0, .int .u64 delay, .slice al i cl, .slice none 0 0, .bool false, .bool false, .int .i64 0] 32 (0, 0))) #[.int .u64 2, .int .u64 0, .int .u64 0, .bool false, .int .u64 0, .int .u64 0, .int .u64 delay, .slice al i cl, .slice none 0 0, .bool false, .bool false, .int .i64 0] 32
            rwa [World.size_alloc] at h)
          clear hw6
          have HRV : Hid (∀ w', Below w6.heap.size w6 w' → Rv w' al i cl (rl)) := Lib.hid (fun w' h => (HRA4.out.rv.keep (Below.keeps (HK6.out.trans (h.mono HK6.out.size))) (fun b hb h => by have := (HRA4.out.ge b hb).2; omega)))
          have HWF : Hid (Qc.wf (Qf.c ⟨⟨2, 0, 0, false, 0, 0, delay, rl, [], false, false, 0⟩, al, i, cl, none, 0, 0⟩)) := Lib.hid ⟨⟨by show (0 : Int) ≤ 2; omega, by show (2 : Int) ≤ _; omega⟩, inU_0, inU_0, inU_0, inU_0, HDL.out, fun r hr => by
            have h := HRL.out r hr
            exact ⟨⟨h.1, by omega⟩, ⟨by omega, by omega⟩⟩, (by show (-9223372036854775808 : Int) ≤ 0; omega), (by show (0 : Int) ≤ 9223372036854775807; omega)⟩
          have HQI : Hid (∀ w', Below w6.heap.size w6 w' → Qin w' ⟨⟨2, 0, 0, false, 0, 0, delay, rl, [], false, false, 0⟩, al, i, cl, none, 0, 0⟩) := Lib.hid (fun w' h => ⟨By.nil _, HRV.out w' h, HWF.out⟩)
          have HLR : Hid ((rl).length = i) := Lib.hid HRA4.out.1.symm
          have hlt6 : w4.heap.size + 1 < w6.heap.size := HR6.out.lt
          refine (qwrite_any none 0 0 [] (some ⟨w4.heap.size + 1, 0, none⟩) 1 1 [⟨⟨2, 0, 0, false, 0, 0, delay, rl, [], false, false, 0⟩, al, i, cl, none, 0, 0⟩] w6 (By.nil _) (fun w' h => by
            refine Qv.blk ((Below.keeps h).blk HR6.out (by omega)) [⟨⟨2, 0, 0, false, 0, 0, delay, rl, [], false, false, 0⟩, al, i, cl, none, 0, 0⟩] rfl (by simp) (fun g hg => ?_)
            simp only [List.mem_cons, List.not_mem_nil, or_false] at hg
            subst hg
            exact HQI.out w' h) (fun g hg => by
            simp only [List.mem_cons, List.not_mem_nil, or_false] at hg
            subst hg
            exact ⟨by show (0 : Nat) ≤ 1000; omega, by show (rl).length ≤ 100; have := HLR.out; omega, by show (0 : Int) ≤ 10000; omega⟩) (by omega) (by simp)).mono ?_
          intro e w7 h7
          obtain ⟨a7, n7, c7, E, rfl⟩ := h7.any
          have HK7 : Hid (Below w.heap.size w w7) := Lib.hid (HKW6.out.trans (h7.1.mono HKW6.out.size))
          clear h7 hlt6
          have hne : (((i : Nat) : Int) == (n : Int)) = false := by simp; omega
          have hne2 : (i == n) = false := by simp; omega
          have hne3 : ¬ i = n := by omega
          have hne4 : ¬ ((i : Nat) : Int) = (n : Int) := by omega
          go_wp2_with fail
          go_returns
          refine ⟨?_, HK7.out⟩
          show Ending.returned (Value.bool ((i : Int) != (n : Int))) = _
          rw [show ((i : Int) != (n : Int)) = true by simp; omega]

        have hgt : decide (A < N) = false := by simp; omega
        go_wp2_with (at_builtin; refine halt ?_)
        refine Halted.go (wpList_ra w4 rfl _ _ rfl w1.heap.size al i cl rl rfl HRA4.out (A - N) A rfl (by omega) HSZ4.out ?_)
        intro a5 c5 w5 hra5 hk5 hn5
        have HRA5 := Lib.hid hra5
        have HK5 : Hid (Below w.heap.size w w5) := Lib.hid (Keeps.below HK4.out hk5 HK4.out.size (fun b hb => by have h1 := hb.1; have h2 := HK1.out.size; omega))
        have HSZ5 : Hid (w1.heap.size ≤ w5.heap.size) := Lib.hid (Nat.le_trans HSZ4.out hk5.size)
        have HCH5 : Hid (chainB 4611686018427387903 (rl ++ [(A - N, A)]) = true) := Lib.hid (chainB_snoc _ _ _ HCH.out (by show A - N ≤ A; omega) HAE.out)
        have HRL5 : Hid (∀ r ∈ rl ++ [(A - N, A)], 0 ≤ r.1 ∧ r.1 ≤ r.2 ∧ r.2 ≤ 4611686018427387903) := Lib.hid (fun r hr => by
          rcases List.mem_append.1 hr with h | h
          · exact HRL.out r h
          · simp only [List.mem_cons, List.not_mem_nil, or_false] at h
            subst h
            exact ⟨by show 0 ≤ A - N; omega, by show A - N ≤ A; omega, hA2⟩)
        clear hra5 hk5 hn5
        by_cases hlast : i + 1 < n
        · have hl1 : decide ((i : Int) + 1 < (n : Int)) = true := by simp; omega
          by_cases hsm : A - N < G + 2
          · have hl2 : decide (A - N < G + 2) = true := decide_eq_true hsm
            go_wp2_with fail
            refine calls_named ?_
            intro w6 hw6
            have HK6 : Hid (Below w5.heap.size w5 w6) := Lib.hid (by rw [← hw6]; exact ((Below.refl _ _).alloc (Nat.le_refl _) _).alloc (by simp) _)
            have HKW6 : Hid (Below w.heap.size w w6) := Lib.hid (HK5.out.trans (HK6.out.mono HK5.out.size))
            have HF6 : Hid (Blk w6 w5.heap.size #[.int .u64 2, .int .u64 0, .int .u64 0, .bool false, .int .u64 0, .int .u64 0, .int .u64 delay, .slice a5 (i + 1) c5, .slice none 0 0, .bool false, .bool false, .int .i64 0] 32) := Lib.hid (by rw [← hw6]; exact (Blk.new _ _ _).alloc _)
            have HR6 : Hid (Blk w6 (w5.heap.size + 1) #[.int .u64 2, .int .u64 0, .int .u64 0, .bool false, .int .u64 0, .int .u64 0, .int .u64 delay, .slice a5 (i + 1) c5, .slice none 0 0, .bool false, .bool false, .int .i64 0] 32) := Lib.hid (by
              rw [← hw6]
              have h := Blk.new (w5.alloc (.cells #[.int .u64 2, .int .u64 0, .int .u64 0, .bool false, .int .u64 0, .int .u64 0, .int .u64 delay, .slice a5 (i + 1) c5, .slice none 0 0, .bool false, .bool false, .int .i64 0] 32 (0, 0))) #[.int .u64 2, .int .u64 0, .int .u64 0, .bool false, .int .u64 0, .int .u64 0, .int .u64 delay, .slice a5 (i + 1) c5, .slice none 0 0, .bool false, .bool false, .int .i64 0] 32
              rwa [World.size_alloc] at h)
            clear hw6
            have HRV : Hid (∀ w', Below w6.heap.size w6 w' → Rv w' a5 (i + 1) c5 (rl ++ [(A - N, A)])) := Lib.hid (fun w' h => (HRA5.out.rv.keep (Below.keeps (HK6.out.trans (h.mono HK6.out.size))) (fun b hb h => by have := (HRA5.out.ge b hb).2; omega)))
            have HWF : Hid (Qc.wf (Qf.c ⟨⟨2, 0, 0, false, 0, 0, delay, rl ++ [(A - N, A)], [], false, false, 0⟩, a5, (i + 1), c5, none, 0, 0⟩)) := Lib.hid ⟨⟨by show (0 : Int) ≤ 2; omega, by show (2 : Int) ≤ _; omega⟩, inU_0, inU_0, inU_0, inU_0, HDL.out, fun r hr => by
              have h := HRL5.out r hr
              exact ⟨⟨h.1, by omega⟩, ⟨by omega, by omega⟩⟩, (by show (-9223372036854775808 : Int) ≤ 0; omega), (by show (0 : Int) ≤ 9223372036854775807; omega)⟩
            have HQI : Hid (∀ w', Below w6.heap.size w6 w' → Qin w' ⟨⟨2, 0, 0, false, 0, 0, delay, rl ++ [(A - N, A)], [], false, false, 0⟩, a5, (i + 1), c5, none, 0, 0⟩) := Lib.hid (fun w' h => ⟨By.nil _, HRV.out w' h, HWF.out⟩)
            have HLR : Hid ((rl ++ [(A - N, A)]).length = (i + 1)) := Lib.hid HRA5.out.1.symm
            have hlt6 : w5.heap.size + 1 < w6.heap.size := HR6.out.lt
            refine (qwrite_any none 0 0 [] (some ⟨w5.heap.size + 1, 0, none⟩) 1 1 [⟨⟨2, 0, 0, false, 0, 0, delay, rl ++ [(A - N, A)], [], false, false, 0⟩, a5, (i + 1), c5, none, 0, 0⟩] w6 (By.nil _) (fun w' h => by
              refine Qv.blk ((Below.keeps h).blk HR6.out (by omega)) [⟨⟨2, 0, 0, false, 0, 0, delay, rl ++ [(A - N, A)], [], false, false, 0⟩, a5, (i + 1), c5, none, 0, 0⟩] rfl (by simp) (fun g hg => ?_)
              simp only [List.mem_cons, List.not_mem_nil, or_false] at hg
              subst hg
              exact HQI.out w' h) (fun g hg => by
              simp only [List.mem_cons, List.not_mem_nil, or_false] at hg
              subst hg
              exact ⟨by show (0 : Nat) ≤ 1000; omega, by show (rl ++ [(A - N, A)]).length ≤ 100; have := HLR.out; omega, by show (0 : Int) ≤ 10000; omega⟩) (by omega) (by simp)).mono ?_
            intro e w7 h7
            obtain ⟨a7, n7, c7, E, rfl⟩ := h7.any
            have HK7 : Hid (Below w.heap.size w w7) := Lib.hid (HKW6.out.trans (h7.1.mono HKW6.out.size))
            clear h7 hlt6
            have hne : ((((i + 1) : Nat) : Int) == (n : Int)) = false := by simp; omega
            have hne2 : ((i + 1) == n) = false := by simp; omega
            have hne3 : ¬ (i + 1) = n := by omega
            have hne4 : ¬ (((i + 1) : Nat) : Int) = (n : Int) := by omega
            go_wp2_with fail
            go_returns
            refine ⟨?_, HK7.out⟩
            show Ending.returned (Value.bool ((i : Int) + 1 != (n : Int))) = _
            rw [show ((i : Int) + 1 != (n : Int)) = true by simp; omega]

          · have hl2 : decide (A - N < G + 2) = false := decide_eq_false hsm
            have hsm2 : G + 2 ≤ A - N := by omega
            have HAN : Hid (0 ≤ A - N - (G + 2) ∧ A - N - (G + 2) ≤ chainEnd 4611686018427387903 (rl ++ [(A - N, A)]) ∧ A - N - (G + 2) ≤ 4611686018427387903) := Lib.hid (by rw [chainEnd_snoc]; dsimp only; omega)
            go_wp2_with fail
            go_roundg k
            case measure => omega
            case rel => exact ⟨i + 1, _, a5, c5, rl ++ [(A - N, A)], rfl, rfl, rfl, by go_num, by have := HKI.out; omega, HRA5.out, HCH5.out, HRL5.out, fun _ => HAN.out, HK5.out, HSZ5.out⟩
        · have hl1 : decide ((i : Int) + 1 < (n : Int)) = false := by simp; omega
          go_wp2_with fail
          go_roundg k
          case measure => omega
          case rel => exact ⟨i + 1, _, a5, c5, rl ++ [(A - N, A)], rfl, rfl, rfl, by go_num, by have := HKI.out; omega, HRA5.out, HCH5.out, HRL5.out, fun h => by omega, HK5.out, HSZ5.out⟩
      · have hlt : decide ((i : Int) < (n : Int)) = false := by simp; omega
        have hie : i = n := by have := HKI.out; omega
        subst hie
        clear hin
        cases OK with
        | false =>
          go_wp2_with fail
          refine calls_named ?_
          intro w6 hw6
          have HK6 : Hid (Below wr.heap.size wr w6) := Lib.hid (by rw [← hw6]; exact ((Below.refl _ _).alloc (Nat.le_refl _) _).alloc (by simp) _)
          have HKW6 : Hid (Below w.heap.size w w6) := Lib.hid (HKW.out.trans (HK6.out.mono HKW.out.size))
          have HF6 : Hid (Blk w6 wr.heap.size #[.int .u64 2, .int .u64 0, .int .u64 0, .bool false, .int .u64 0, .int .u64 0, .int .u64 delay, .slice al i cl, .slice none 0 0, .bool false, .bool false, .int .i64 0] 32) := Lib.hid (by rw [← hw6]; exact (Blk.new _ _ _).alloc _)
          have HR6 : Hid (Blk w6 (wr.heap.size + 1) #[.int .u64 2, .int .u64 0, .int .u64 0, .bool false, .int .u64 0, .int .u64 0, .int .u64 delay, .slice al i cl, .slice none 0 0, .bool false, .bool false, .int .i64 0] 32) := Lib.hid (by
            rw [← hw6]
            have h := Blk.new (wr.alloc (.cells #[.int .u64 2, .int .u64 0, .int .u64 0, .bool false, .int .u64 0, .int .u64 0, .int .u64 delay, .slice al i cl, .slice none 0 0, .bool false, .bool false, .int .i64 0] 32 (0, 0))) #[.int .u64 2, .int .u64 0, .int .u64 0, .bool false, .int .u64 0, .int .u64 0, .int .u64 delay, .slice al i cl, .slice none 0 0, .bool false, .bool false, .int .i64 0] 32
            rwa [World.size_alloc] at h)
          clear hw6
          have HRV : Hid (∀ w', Below w6.heap.size w6 w' → Rv w' al i cl (rl)) := Lib.hid (fun w' h => (HRA.out.rv.keep (Below.keeps (HK6.out.trans (h.mono HK6.out.size))) (fun b hb h => by have := (HRA.out.ge b hb).2; omega)))
          have HWF : Hid (Qc.wf (Qf.c ⟨⟨2, 0, 0, false, 0, 0, delay, rl, [], false, false, 0⟩, al, i, cl, none, 0, 0⟩)) := Lib.hid ⟨⟨by show (0 : Int) ≤ 2; omega, by show (2 : Int) ≤ _; omega⟩, inU_0, inU_0, inU_0, inU_0, HDL.out, fun r hr => by
            have h := HRL.out r hr
            exact ⟨⟨h.1, by omega⟩, ⟨by omega, by omega⟩⟩, (by show (-9223372036854775808 : Int) ≤ 0; omega), (by show (0 : Int) ≤ 9223372036854775807; omega)⟩
          have HQI : Hid (∀ w', Below w6.heap.size w6 w' → Qin w' ⟨⟨2, 0, 0, false, 0, 0, delay, rl, [], false, false, 0⟩, al, i, cl, none, 0, 0⟩) := Lib.hid (fun w' h => ⟨By.nil _, HRV.out w' h, HWF.out⟩)
          have HLR : Hid ((rl).length = i) := Lib.hid HRA.out.1.symm
          have hlt6 : wr.heap.size + 1 < w6.heap.size := HR6.out.lt
          refine (qwrite_any none 0 0 [] (some ⟨wr.heap.size + 1, 0, none⟩) 1 1 [⟨⟨2, 0, 0, false, 0, 0, delay, rl, [], false, false, 0⟩, al, i, cl, none, 0, 0⟩] w6 (By.nil _) (fun w' h => by
            refine Qv.blk ((Below.keeps h).blk HR6.out (by omega)) [⟨⟨2, 0, 0, false, 0, 0, delay, rl, [], false, false, 0⟩, al, i, cl, none, 0, 0⟩] rfl (by simp) (fun g hg => ?_)
            simp only [List.mem_cons, List.not_mem_nil, or_false] at hg
            subst hg
            exact HQI.out w' h) (fun g hg => by
            simp only [List.mem_cons, List.not_mem_nil, or_false] at hg
            subst hg
            exact ⟨by show (0 : Nat) ≤ 1000; omega, by show (rl).length ≤ 100; have := HLR.out; omega, by show (0 : Int) ≤ 10000; omega⟩) (by omega) (by simp)).mono ?_
          rintro e w7 ⟨hk7, hr7⟩
          have HK7 : Hid (Below w.heap.size w w7) := Lib.hid (HKW6.out.trans (hk7.mono HKW6.out.size))
          have HEN : Hid (encsO [] [⟨⟨2, 0, 0, false, 0, 0, delay, rl, [], false, false, 0⟩, al, i, cl, none, 0, 0⟩] = none) := Lib.hid (enc_one_noneA (okA_no (by rw [HLR.out]; exact HOK.out)))
          rw [HEN.out] at hr7
          have hr' : e = .returned (.tuple #[.slice none 0 0, .int .i64 30]) := hr7
          subst hr'
          clear hr7 hk7 hlt6
          go_wp2_with fail
          go_returns
          exact ⟨rfl, HK7.out⟩

        | true =>
          go_wp2_with fail
          refine calls_named ?_
          intro w6 hw6
          have HK6 : Hid (Below wr.heap.size wr w6) := Lib.hid (by rw [← hw6]; exact ((Below.refl _ _).alloc (Nat.le_refl _) _).alloc (by simp) _)
          have HKW6 : Hid (Below w.heap.size w w6) := Lib.hid (HKW.out.trans (HK6.out.mono HKW.out.size))
          have HF6 : Hid (Blk w6 wr.heap.size #[.int .u64 2, .int .u64 0, .int .u64 0, .bool false, .int .u64 0, .int .u64 0, .int .u64 delay, .slice al i cl, .slice none 0 0, .bool false, .bool false, .int .i64 0] 32) := Lib.hid (by rw [← hw6]; exact (Blk.new _ _ _).alloc _)
          have HR6 : Hid (Blk w6 (wr.heap.size + 1) #[.int .u64 2, .int .u64 0, .int .u64 0, .bool false, .int .u64 0, .int .u64 0, .int .u64 delay, .slice al i cl, .slice none 0 0, .bool false, .bool false, .int .i64 0] 32) := Lib.hid (by
            rw [← hw6]
            have h := Blk.new (wr.alloc (.cells #[.int .u64 2, .int .u64 0, .int .u64 0, .bool false, .int .u64 0, .int .u64 0, .int .u64 delay, .slice al i cl, .slice none 0 0, .bool false, .bool false, .int .i64 0] 32 (0, 0))) #[.int .u64 2, .int .u64 0, .int .u64 0, .bool false, .int .u64 0, .int .u64 0, .int .u64 delay, .slice al i cl, .slice none 0 0, .bool false, .bool false, .int .i64 0] 32
            rwa [World.size_alloc] at h)
          clear hw6
          have HRV : Hid (∀ w', Below w6.heap.size w6 w' → Rv w' al i cl (rl)) := Lib.hid (fun w' h => (HRA.out.rv.keep (Below.keeps (HK6.out.trans (h.mono HK6.out.size))) (fun b hb h => by have := (HRA.out.ge b hb).2; omega)))
          have HWF : Hid (Qc.wf (Qf.c ⟨⟨2, 0, 0, false, 0, 0, delay, rl, [], false, false, 0⟩, al, i, cl, none, 0, 0⟩)) := Lib.hid ⟨⟨by show (0 : Int) ≤ 2; omega, by show (2 : Int) ≤ _; omega⟩, inU_0, inU_0, inU_0, inU_0, HDL.out, fun r hr => by
            have h := HRL.out r hr
            exact ⟨⟨h.1, by omega⟩, ⟨by omega, by omega⟩⟩, (by show (-9223372036854775808 : Int) ≤ 0; omega), (by show (0 : Int) ≤ 9223372036854775807; omega)⟩
          have HQI : Hid (∀ w', Below w6.heap.size w6 w' → Qin w' ⟨⟨2, 0, 0, false, 0, 0, delay, rl, [], false, false, 0⟩, al, i, cl, none, 0, 0⟩) := Lib.hid (fun w' h => ⟨By.nil _, HRV.out w' h, HWF.out⟩)
          have HLR : Hid ((rl).length = i) := Lib.hid HRA.out.1.symm
          have hlt6 : wr.heap.size + 1 < w6.heap.size := HR6.out.lt
          refine (qwrite_any none 0 0 [] (some ⟨wr.heap.size + 1, 0, none⟩) 1 1 [⟨⟨2, 0, 0, false, 0, 0, delay, rl, [], false, false, 0⟩, al, i, cl, none, 0, 0⟩] w6 (By.nil _) (fun w' h => by
            refine Qv.blk ((Below.keeps h).blk HR6.out (by omega)) [⟨⟨2, 0, 0, false, 0, 0, delay, rl, [], false, false, 0⟩, al, i, cl, none, 0, 0⟩] rfl (by simp) (fun g hg => ?_)
            simp only [List.mem_cons, List.not_mem_nil, or_false] at hg
            subst hg
            exact HQI.out w' h) (fun g hg => by
            simp only [List.mem_cons, List.not_mem_nil, or_false] at hg
            subst hg
            exact ⟨by show (0 : Nat) ≤ 1000; omega, by show (rl).length ≤ 100; have := HLR.out; omega, by show (0 : Int) ≤ 10000; omega⟩) (by omega) (by simp)).mono ?_
          rintro e w7 ⟨hk7, hr7⟩
          have HK7 : Hid (Below w.heap.size w w7) := Lib.hid (HKW6.out.trans (hk7.mono HKW6.out.size))
          obtain ⟨ys, hys⟩ := okA_yes (rs := rl) (delay := delay) (by rw [HLR.out]; exact HOK.out) HCH.out HRL.out
          have HEN : Hid (encsO [] [⟨⟨2, 0, 0, false, 0, 0, delay, rl, [], false, false, 0⟩, al, i, cl, none, 0, 0⟩] = some ys) := Lib.hid (enc_one_someA (f := ⟨⟨2, 0, 0, false, 0, 0, delay, rl, [], false, false, 0⟩, al, i, cl, none, 0, 0⟩) hys)
          have HDE : Hid (decQ ys = some (⟨2, 0, 0, false, 0, 0, delay, rl, [], false, false, 0⟩, [])) := Lib.hid (by
            have h := dec_enc (c := ⟨2, 0, 0, false, 0, 0, delay, rl, [], false, false, 0⟩) (by show ¬ (2 : Int) = 0; omega) HWF.out ⟨by show (0 : Nat) ≤ 1000; omega, by show (rl).length ≤ 100; have := HLR.out; omega, by show (0 : Int) ≤ 10000; omega⟩ hys []
            rw [List.append_nil] at h
            rw [h]
            rfl)
          have hyl := encQ_len (c := ⟨2, 0, 0, false, 0, 0, delay, rl, [], false, false, 0⟩) ⟨by show (0 : Nat) ≤ 1000; omega, by show (rl).length ≤ 100; have := HLR.out; omega, by show (0 : Int) ≤ 10000; omega⟩ hys
          rw [HEN.out] at hr7
          obtain ⟨a7, n7, c7, rfl, ho7⟩ := hr7
          have HO7 := Lib.hid ho7
          have HN7 : Hid (n7 = ys.length) := Lib.hid ho7.1
          have HF7 : Hid (Blk w7 wr.heap.size #[.int .u64 2, .int .u64 0, .int .u64 0, .bool false, .int .u64 0, .int .u64 0, .int .u64 delay, .slice al i cl, .slice none 0 0, .bool false, .bool false, .int .i64 0] 32) := Lib.hid ((Below.keeps hk7).blk HF6.out (by have := HF6.out.lt; omega))
          have HX7 : Hid (Below w6.heap.size w6 w7) := Lib.hid hk7
          clear ho7 hk7 hlt6
          go_wp2_with fail
          refine (qread_any a7 n7 c7 ys w7 HO7.out.by (by have := HN7.out; omega) (fun b hb => (HO7.out.ge b hb).2)).mono ?_
          rintro e w8 ⟨hk8, hr8⟩
          rw [HDE.out] at hr8
          obtain ⟨g, hgc, rfl, hqn⟩ := hr8
          have HGC := Lib.hid hgc
          have HQN := Lib.hid hqn
          have HK8 : Hid (Below w.heap.size w w8) := Lib.hid (HK7.out.trans (hk8.mono HK7.out.size))
          have HF8 : Hid (Blk w8 wr.heap.size #[.int .u64 2, .int .u64 0, .int .u64 0, .bool false, .int .u64 0, .int .u64 0, .int .u64 delay, .slice al i cl, .slice none 0 0, .bool false, .bool false, .int .i64 0] 32) := Lib.hid ((Below.keeps hk8).blk HF7.out (by have := HF7.out.lt; omega))
          have HX8 : Hid (Below w6.heap.size w6 w8) := Lib.hid (HX7.out.trans (hk8.mono HX7.out.size))
          clear hk8 hgc hqn
          dsimp only [List.length_nil, Nat.sub_zero]
          unfold Qf.cs
          go_upto_region 23 with fail
          refine wp_named ?_
          intro w9 hw9
          have HA9 : Hid (Keeps (fun _ => False) w8 w9) := Lib.hid (by rw [← hw9]; exact (Keeps.refl _ _).alloc _)
          have HG9 : Hid (Blk w9 w8.heap.size g.cs 32) := Lib.hid (by rw [← hw9]; exact Blk.new _ _ _)
          have HF9 := Lib.hid (HA9.out.blk HF8.out (fun h => h))
          have HK9 : Hid (Below w.heap.size w w9) := Lib.hid (Keeps.below HK8.out HA9.out HK8.out.size (fun _ h => False.elim h))
          have HX9 : Hid (Below w6.heap.size w6 w9) := Lib.hid (Keeps.below HX8.out HA9.out HX8.out.size (fun _ h => False.elim h))
          clear hw9
          have HG9' := HG9.out
          unfold Qf.cs at HG9'
          obtain ⟨x0, x1, x2, x3, x4, x5, x6, x7, x8, x9, x10, x11⟩ := q12_cells HF9.out
          obtain ⟨y0, y1, y2, y3, y4, y5, y6, y7, y8, y9, y10, y11⟩ := q12_cells HG9'
          clear HG9'
          go_wp2_with fail
          clear x0 y0 x1 y1 x2 y2 x3 y3 x4 y4 x5 y5 x6 y6 x7 y7 x8 y8 x9 y9 x10 y10 x11 y11
          refine (qframe_eq ⟨⟨2, 0, 0, false, 0, 0, delay, rl, [], false, false, 0⟩, al, i, cl, none, 0, 0⟩ g w9 HGC.out (fun w' h => HQI.out w' (Keeps.below HX9.out h HX9.out.size (fun _ h => False.elim h))) (fun w' h => (HQN.out.keep (HA9.out.trans h) (fun _ h => False.elim h)).q) (by show (rl).length ≤ 1000; have := HLR.out; omega)).mono ?_
          rintro e w10 ⟨rfl, hk10⟩
          have HK10 : Hid (Below w.heap.size w w10) := Lib.hid (Keeps.below HK9.out hk10 HK9.out.size (fun _ h => False.elim h))
          clear hk10
          go_wp2_with fail
          go_returns
          exact ⟨rfl, HK10.out⟩


end Go.Proofs.Ytgfkgmmigbpciaa
