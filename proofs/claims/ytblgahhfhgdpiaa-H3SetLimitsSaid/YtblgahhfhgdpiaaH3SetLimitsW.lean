/- The walk of H3SetLimits. -/
import Derived.Test.YtblgahhfhgdpiaaH3M
import Derived.Deep.DeepCutAuto
namespace Go.Proofs.Ytblgahhfhgdpiaa
open Go.RowKit Go.Deep Go.Maps Go.ChangeShapes Go.WideShapes

/-- The settings that the law makes. -/
def limL (T : Int) (k : Nat) : List (Int × Int) := (List.range k).map fun (i : Nat) => (100 + (i : Int), T)
theorem limL_succ (T : Int) (k : Nat) : limL T (k + 1) = limL T k ++ [(100 + (k : Int), T)] := by unfold limL; rw [List.range_succ]; simp
theorem limL_length (T : Int) (k : Nat) : (limL T k).length = k := by unfold limL; simp
theorem limL_in (T : Int) (k : Nat) (hk : k ≤ 1000) (hT : inU T) : ∀ p ∈ limL T k, inU p.1 ∧ inU p.2 := by
  intro p hp
  unfold limL at hp
  obtain ⟨i, hi, rfl⟩ := List.mem_map.1 hp
  have := List.mem_range.1 hi
  exact ⟨⟨by simp only; omega, by simp only; omega⟩, hT⟩
theorem limL_ids (T : Int) (k : Nat) : ((limL T k).map (·.1)).Nodup := by
  unfold limL
  rw [List.map_map]
  rw [List.nodup_iff_pairwise_ne] 
  refine List.pairwise_map.2 ?_
  exact List.Pairwise.imp (fun {a b} h => by simp only [Function.comp]; omega) (List.nodup_range (n := k))
theorem limL_ok (T : Int) (k : Nat) (hk : k ≤ 1000) (hT : T ≤ 4611686018427387903) : setOK (limL T k) = true := by
  unfold setOK
  rw [List.all_eq_true]
  intro p hp
  unfold limL at hp
  obtain ⟨i, hi, rfl⟩ := List.mem_map.1 hp
  have := List.mem_range.1 hi
  unfold varsOK
  simp
  omega
theorem limL_err (T : Int) (k : Nat) (hk : k ≤ 1000) (hT : T ≤ 4611686018427387903) : setErr (limL T k) = if k ≤ 32 then 0 else 34 := by
  by_cases h : k ≤ 32
  · rw [if_pos h]
    exact (err_none (not_bad (by rw [limL_length]; omega) (limL_ids T k)) (limL_ok T k hk hT)).1
  · rw [if_neg h]
    exact (err_bad (by unfold setBad; rw [limL_length]; simp; omega)).1

theorem So.at {base : Nat} {w : World} {a : Option Addr} {n cap : Nat} {l : List (Int × Int)} (h : So base w a n cap l) (hn : 0 < n) :
    ∃ g, a = some ⟨g, 0, none⟩ ∧ base ≤ g ∧ g < w.heap.size ∧ (∀ i (hi : i < l.length), w.cell? ⟨g, i * 2, none⟩ = some (.int .u64 l[i].1)) ∧ (∀ i, w.frozen? ⟨g, i, none⟩ = false) := by
  obtain ⟨hl, ⟨h1, h2⟩, h3⟩ := h
  rcases h2 with ⟨hv, h0⟩ | ⟨g, cap', cur, hv, hg, hb, hnc, hcm, hs, ht⟩
  · omega
  · cases hv
    have ho : w.ownsRow base 57 2 (.slice (some ⟨g, 0, none⟩) n cap) n (Ss l) := ⟨h1, .inr ⟨g, cap, cur, rfl, hg, hb, hnc, hcm, hs, ht⟩⟩
    refine ⟨g, rfl, hg, lt_of_block hb, fun i hi => ?_, fun i => ho.frozenAt i⟩
    have := ho.cells (g := g) rfl (i * 2) _ (Ss_get l i hi).1
    rwa [add_plain, Nat.zero_add] at this
theorem Ss_set : ∀ (l : List (Int × Int)) (i : Nat) (hi : i < l.length) (x : Int), (Ss l).set (i * 2) (.int .u64 x) = Ss (l.set i (x, l[i].2)) := by
  intro l
  induction l with
  | nil => intro i hi; simp at hi
  | cons f l ih =>
    intro i hi x
    cases i with
    | zero => rfl
    | succ i =>
      have := ih i (by simpa using hi) x
      simp only [Ss, show (i + 1) * 2 = i * 2 + 1 + 1 by omega, List.set_cons_succ, List.getElem_cons_succ]
      rw [this]
theorem So.set {base : Nat} {w : World} {g n cap : Nat} {l : List (Int × Int)} (h : So base w (some ⟨g, 0, none⟩) n cap l) (i : Nat) (hi : i < l.length) (x : Int) (hx : inU x) :
    So base (w.setCell ⟨g, i * 2, none⟩ (.int .u64 x)) (some ⟨g, 0, none⟩) n cap (l.set i (x, l[i].2)) := by
  obtain ⟨hl, ho, hin⟩ := h
  refine ⟨by simp; exact hl, ?_, fun p hp => ?_⟩
  · have := (ho.stored (i * 2) (.int .u64 x)).1
    rwa [Ss_set l i hi x] at this
  · rcases List.mem_or_eq_of_mem_set hp with hp | rfl
    · exact hin p hp
    · exact ⟨hx, (hin l[i] (List.getElem_mem hi)).2⟩
theorem lim_twice (l : List (Int × Int)) (k r : Nat) (hk : k < l.length) (hr : r < k) (y : Int) : setErr (l.set k ((l[r]'(by omega)).1, y)) = 34 := by
  refine (err_bad ?_).1
  unfold setBad
  rw [twice_of (k := r) (i := k) hr (by simpa using hk) ?_]
  · simp
  · rw [List.getElem_set_self, List.getElem_set_ne (by omega)]

theorem one_facts (D T : Int) (D0 : 0 ≤ D) (D1 : D < 40) (T0 : 0 ≤ T) (T1 : T ≤ 4611686018427387903) : setErr [(D, T)] = 0 ∧ setT [(D, T)] = 4 ∧ setB [(D, T)] = varE D ++ (varE T ++ []) ∧ (rsR 4 (varE D ++ (varE T ++ []))).2 = if D = 0 ∨ 2 ≤ D ∧ D ≤ 5 then 4 else 0 := by
  have hok : setOK [(D, T)] = true := by unfold setOK varsOK; simp; omega
  have hnb : setBad [(D, T)] = false := not_bad (by simp) (by simp)
  obtain ⟨e1, e2, e3⟩ := err_none hnb hok
  refine ⟨e1, e2, by rw [e3, setE_cons]; rfl, ?_⟩
  obtain ⟨k, j, k1, j1, l1, l2, a1, a2, a3, a4, a5, a6, a7⟩ := two_facts D T [] D0 (by omega) T0 T1
  have hpos : 0 < (varE D ++ (varE T ++ [])).length := by simp [l1]; omega
  unfold rsR
  rw [if_pos rfl]
  have hid : idsN [] D = 0 := by simp [idsN]
  by_cases hb : D = 0 ∨ 2 ≤ D ∧ D ≤ 5
  · rw [if_pos hb, rsT_3 hpos (Nat.lt_succ_self _) a1 a2 a3 a4 (by rw [a7]; unfold rsBad; simp only [decide_eq_true_eq]; exact .inr (by rcases hb with h | h; exact .inl h; exact .inr (.inl h)))]
  · have hb2 : rsBad [] D = false := by
      unfold rsBad
      simp only [decide_eq_false_iff_not, hid]
      simp
      omega
    rw [if_neg hb, rsT_4 hpos (Nat.lt_succ_self _) a1 a2 a3 a4 a5 (by rw [a7]; exact hb2)]
    have e8 : (varE D ++ (varE T ++ [])).drop (k + j) = [] := by rw [← List.append_assoc, List.drop_left' (by simp [l1, l2])]
    rw [e8, rsT_0 rfl]

set_option maxRecDepth 100000 in
set_option maxHeartbeats 3200000 in
theorem walkH3SetLimits (w : World) (n : Int) (hn : (Lit.int .u8 n).wf = true) (d : Int) (hd : (Lit.int .u8 d).wf = true) (v : Int) (hv : (Lit.int .u64 v).wf = true) (tw : Bool) :
    Calls Try.prog 8 #[.int .u8 n, .int .u8 d, .int .u64 v, .bool tw] w fun e w' => e = .returned (.bool true) ∧ Below w.heap.size w w' := by
  obtain ⟨n0, n1⟩ := wf_u8_iff hn
  obtain ⟨d0, d1⟩ := wf_u8_iff hd
  obtain ⟨v0, v1⟩ := wf_u64_iff hv
  clear hn hd hv
  obtain ⟨T, hT⟩ : ∃ T : Int, v % 4611686018427387904 = T := ⟨_, rfl⟩
  have hand : bits .and .u64 v 4611686018427387903 = T := by rw [and62 v v0 v1, hT]
  have T0 : 0 ≤ T := by omega
  have T1 : T ≤ 4611686018427387903 := by omega
  have HTU : Hid (inU T) := ⟨T0, by omega⟩
  clear hT
  obtain ⟨q, hq⟩ : ∃ q : Nat, n % 5 = q := ⟨(n % 5).toNat, by omega⟩
  have hq5 : q < 5 := by omega
  have HQ := Lib.hid hq
  clear hq
  obtain ⟨i0, hi, hz0, hz1, hz2⟩ := info_parts infoS
  have HI := Lib.hid hi
  have HZ0 := Lib.hid hz0
  have HZ1 := Lib.hid hz1
  have HZ2 := Lib.hid hz2
  clear hi hz0 hz1 hz2
  go_enter Try.func8, Try.ntmps8
  go_wp2_with fail
  refine (known_any w).mono ?_
  rintro e w1 ⟨rfl, hk1⟩
  have HK := Lib.hid hk1
  clear hk1
  go_wp2_with fail
  go_loopg [10, 11] (30 + q) (fun k vl vi wr => ∃ (i : Nat) (a' : Option Addr) (c' : Nat), k + i = 30 + q ∧ vi = .int .i64 i ∧ vl = .slice a' i c' ∧ So w1.heap.size wr a' i c' (limL T i) ∧ Below w.heap.size w wr ∧ w1.heap.size ≤ wr.heap.size)
  case atStart => exact ⟨0, none, 0, by omega, rfl, rfl, So.nil _ _, HK.out, Nat.le_refl _⟩
  case round =>
    obtain ⟨i, a2, c2, hik, rfl, rfl, hso, hk, hs⟩ := hrel
    have HIK := Lib.hid hik
    have HSO := Lib.hid hso
    have HKR := Lib.hid hk
    clear hik hso hk
    by_cases hlt : i < 30 + q
    · have hltI : (i : Int) < 30 + n % 5 := by have := HQ.out; omega
      have hsz1 : w1.heap.size ≤ (wr.alloc (.cells #[.int .u64 (100 + (i : Int)), .int .u64 T] 57 (0, 0))).heap.size := by simp; omega
      go_wp2_with (at_builtin; refine halt ?_)
      refine Halted.go (wpList_app _ rfl _ _ 45 45 rfl w1.heap.size 57 i0 _ 2 16 Try.underlying45 HI.out HZ0.out HZ1.out HZ2.out rfl a2 i c2 (Ss (limL T i)) rfl (Dst.alloc (.inl HSO.out.2.1) _) (.slice (some ⟨wr.heap.size, 0, none⟩) 1 1) rfl 1 (Ss [(100 + (i : Int), T)]) (src_set wr _ _) (by unfold maxLen; omega) (by omega) hsz1 ?_)
      intro a3 c3 w3 hd3 hk3 hn3 hown3 _
      have hso3 : So w1.heap.size w3 a3 (i + 1) c3 (limL T (i + 1)) := by
        refine ⟨(limL_length T (i + 1)).symm, by have h := hown3 (by omega); rwa [Ss_append, ← limL_succ] at h, limL_in T (i + 1) (by omega) HTU.out⟩
      have HSO3 := Lib.hid hso3
      have HK3 := Lib.hid (Keeps.mine_below (HKR.out.alloc (by have := HK.out.size; omega) (.cells #[.int .u64 (100 + (i : Int)), .int .u64 T] 57 (0, 0))) hk3 (by have := HK.out.size; simp; omega) HK.out.size)
      have HS3 : Hid (w1.heap.size ≤ w3.heap.size) := by show _ ≤ _; have := hk3.size; simp at this; omega
      clear hd3 hk3 hn3 hown3 hso3
      go_wp2_with fail
      obtain ⟨g, rfl⟩ : ∃ g, gk = g + 1 := ⟨gk - 1, by have := HIK.out; omega⟩
      go_roundg g
      case measure => omega
      case rel => exact ⟨i + 1, a3, c3, by have := HIK.out; omega, by go_num, rfl, HSO3.out, HK3.out, HS3.out⟩
    · obtain rfl : i = 30 + q := by have := HIK.out; omega
      have hltI : ¬ (((30 + q : Nat) : Int) < 30 + n % 5) := by have := HQ.out; omega
      go_upto_if 39 with fail
      go_cut [] (fun wx => ∃ L : List (Int × Int), So w1.heap.size wx a2 (30 + q) c2 L ∧ Below w.heap.size w wx ∧ w1.heap.size ≤ wx.heap.size ∧ setErr L = (if tw = true then 34 else if 30 + q ≤ 32 then 0 else 34))
      case first =>
        cases tw with
        | false =>
          go_wp2_with fail
          go_meet
          exact ⟨_, HSO.out, HKR.out, hs, by rw [limL_err T (30 + q) (by omega) T1]; rfl⟩
        | true =>
          obtain ⟨g, rfl, hg0, hg1, hcell, hfree⟩ := HSO.out.at (by omega)
          have e9 : 30 + n % 5 - 1 = 29 + (q : Int) := by have := HQ.out; omega
          obtain ⟨r, hr⟩ : ∃ r : Nat, n % (29 + (q : Int)) = r := ⟨(n % (29 + (q : Int))).toNat, by have := Int.emod_nonneg n (show 29 + (q : Int) ≠ 0 by omega); omega⟩
          have hrl : r < 29 + q := by have := Int.emod_lt_of_pos n (show (0 : Int) < 29 + (q : Int) by omega); omega
          have c1 := hcell r (by rw [limL_length]; omega)
          have c2' := hcell (29 + q) (by rw [limL_length]; omega)
          have c3' := hfree ((29 + q) * 2)
          clear hcell hfree
          go_wp2_with fail
          go_meet
          have hlen := limL_length T (30 + q)
          have hx := (limL_in T (30 + q) (by omega) HTU.out _ (List.getElem_mem (by omega : r < (limL T (30 + q)).length))).1
          refine ⟨_, HSO.out.set (29 + q) (by omega) (limL T (30 + q))[r].1 hx, HKR.out.setCell (by show w.heap.size ≤ g; have := HK.out.size; omega) _, by rw [World.size_setCell]; exact hs, ?_⟩
          rw [if_pos trivial]
          exact lim_twice (limL T (30 + q)) (29 + q) r (by omega) hrl _
      case rest =>
        obtain ⟨L, hso, hk, hsz, herr⟩ := hcut
        clear HSO HKR hs
        have HSO := Lib.hid hso
        have HKR := Lib.hid hk
        have HERR := Lib.hid herr
        clear hso hk herr
        have hs1 := HK.out.size
        go_wp2_with fail
        refine (set_any a2 (30 + q) c2 L wc (fun w' hb => (HSO.out.below hb).sv) (by omega)).mono ?_
        rintro e w2 ⟨a3, n3, c3, rfl, -, hk2⟩
        generalize setT L = tt at *
        generalize hE : setErr L = er at *
        have HE := Lib.hid hE
        have HK2 := Lib.hid ((HKR.out.trans (hk2.mono HKR.out.size)).alloc (by have := HKR.out.size; have := hk2.size; omega) (.cells #[.int .u64 tt, .slice a3 n3 c3] 33 (0, 0)))
        have hs2 : w.heap.size ≤ w2.heap.size := by have := HKR.out.size; have := hk2.size; omega
        clear hk2 hE
        obtain ⟨D, hD⟩ : ∃ D : Int, d % 40 = D := ⟨_, rfl⟩
        have D0 : 0 ≤ D := by omega
        have D1 : D < 40 := by omega
        obtain ⟨o1, o2, o3, o4⟩ := one_facts D T D0 D1 T0 T1
        have O1 := Lib.hid o1
        have O2 := Lib.hid o2
        have O3 := Lib.hid o3
        have O4 := Lib.hid o4
        clear o1 o2 o3 o4
        have hsn := Sv.new (w2.alloc (.cells #[.int .u64 tt, .slice a3 n3 c3] 33 (0, 0))) [(D, T)] 57 #[.int .u64 D, .int .u64 T] rfl (by simp) (fun f hf => by simp at hf; subst hf; exact ⟨⟨D0, by simp only; omega⟩, HTU.out⟩)
        rw [show (w2.alloc (.cells #[.int .u64 tt, .slice a3 n3 c3] 33 (0, 0))).heap.size = w2.heap.size + 1 by simp] at hsn
        have HSN := Lib.hid hsn
        clear hsn
        go_wp2_with fail
        refine (setr_any (some ⟨w2.heap.size + 1, 0, none⟩) 1 1 [(D, T)] _ HSN.out).mono ?_
        rintro e w4 ⟨a4, n4, c4, rfl, ho4, hk4⟩
        rw [O1.out, O2.out]
        rw [O3.out] at ho4
        have hle : n4 ≤ 100 := by
          have h1 := ho4.1
          have h2 : ∀ x, (varE x).length ≤ 8 := fun x => by unfold varE; (repeat' split) <;> simp [bigD_length]
          have h3 := h2 D
          have h4 := h2 T
          simp at h1
          omega
        generalize varE D ++ (varE T ++ []) = os at *
        have HO4 := Lib.hid ho4
        have HK4 := Lib.hid (((HK2.out.alloc HK2.out.size (.cells #[.int .u64 D, .int .u64 T] 57 (0, 0))).trans (hk4.mono (by have := HK2.out.size; simp; omega))).alloc (by have h1 := hk4.size; simp at h1; omega) (.cells #[.int .u64 4, .slice a4 n4 c4] 33 (0, 0)))
        have HST := Lib.hid (Stay.new (HO4.out.by.alloc (.cells #[.int .u64 4, .slice a4 n4 c4] 33 (0, 0))) (fun b hb => by have := HO4.out.lt b hb; simp; omega))
        clear ho4 hk4
        go_wp2_with fail
        refine (rset_any 4 a4 n4 c4 os _ HST.out (by omega)).mono ?_
        rintro e w5 ⟨a5, n5, c5, rfl, -, hk5⟩
        rw [O4.out]
        have HK5 := Lib.hid (HK4.out.trans (hk5.mono HK4.out.size))
        clear hk5
        have hec : (er = 34 ∧ tw = true ∧ 30 + n % 5 ≤ 32) ∨ (er = 34 ∧ tw = true ∧ 32 < 30 + n % 5) ∨ (er = 34 ∧ tw = false ∧ 32 < 30 + n % 5) ∨ (er = 0 ∧ tw = false ∧ 30 + n % 5 ≤ 32) := by
          have h1 := HERR.out
          have h2 := HQ.out
          cases tw with
          | true =>
            rw [if_pos rfl] at h1
            by_cases h : 30 + n % 5 ≤ 32
            · exact .inl ⟨h1, rfl, h⟩
            · exact .inr (.inl ⟨h1, rfl, by omega⟩)
          | false =>
            rw [if_neg (by decide)] at h1
            by_cases h : 30 + q ≤ 32
            · rw [if_pos h] at h1; exact .inr (.inr (.inr ⟨h1, rfl, by omega⟩))
            · rw [if_neg h] at h1; exact .inr (.inr (.inl ⟨h1, rfl, by omega⟩))
        generalize hr : (if D = 0 ∨ 2 ≤ D ∧ D ≤ 5 then (4 : Int) else 0) = rr
        have hrc : (D = 0 ∧ rr = 4) ∨ ((0 < D ∧ 2 ≤ D ∧ D ≤ 5) ∧ rr = 4) ∨ ((0 < D ∧ D < 2) ∧ rr = 0) ∨ (5 < D ∧ rr = 0) := by
          rw [← hr]
          split <;> omega
        clear hr hand
        rcases hrc with ⟨g1, rfl⟩ | ⟨⟨g1, g2, g3⟩, rfl⟩ | ⟨⟨g1, g2⟩, rfl⟩ | ⟨g1, rfl⟩
        · subst g1
          rcases hec with ⟨rfl, rfl, h3⟩ | ⟨rfl, rfl, h3⟩ | ⟨rfl, rfl, h3⟩ | ⟨rfl, rfl, h3⟩
          all_goals (
            go_wp2_with fail
            go_returns
            exact ⟨rfl, HK5.out⟩)
        · have hb : (D == 0) = false := by simp; omega
          rcases hec with ⟨rfl, rfl, h3⟩ | ⟨rfl, rfl, h3⟩ | ⟨rfl, rfl, h3⟩ | ⟨rfl, rfl, h3⟩
          all_goals (
            go_wp2_with fail
            go_returns
            exact ⟨rfl, HK5.out⟩)
        · have hb : (D == 0) = false := by simp; omega
          rcases hec with ⟨rfl, rfl, h3⟩ | ⟨rfl, rfl, h3⟩ | ⟨rfl, rfl, h3⟩ | ⟨rfl, rfl, h3⟩
          all_goals (
            go_wp2_with fail
            go_returns
            exact ⟨rfl, HK5.out⟩)
        · have hb : (D == 0) = false := by simp; omega
          have hd5 : decide (D ≤ 5) = false := by simp; omega
          rcases hec with ⟨rfl, rfl, h3⟩ | ⟨rfl, rfl, h3⟩ | ⟨rfl, rfl, h3⟩ | ⟨rfl, rfl, h3⟩
          all_goals (
            go_wp2_with fail
            go_returns
            exact ⟨rfl, HK5.out⟩)

end Go.Proofs.Ytblgahhfhgdpiaa
