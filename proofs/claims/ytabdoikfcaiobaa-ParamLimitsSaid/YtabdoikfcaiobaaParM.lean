/- ReadParams of the package bifoldref17. -/
import Derived.Test.YtabdoikfcaiobaaParL
namespace Go.Proofs.Ytabdoikfcaiobaa
open Go.RowKit Go.Deep Go.Maps

theorem Po.put {base rb : Nat} {w w' : World} {a : Option Addr} {cap : Nat} {l : List Fr} (h : Po base w a cap l) (k : Keeps (fun k => k = rb) w w') (hr : rb < base) : Po base w' a cap l := h.keep k (fun b hb => by omega)
theorem Rr.far {rb : Nat} {w w' : World} {a : Option Addr} {m cap at_ : Nat} {ok : Bool} (h : Rr w rb a m cap at_ ok) (k : Below w.heap.size w w') (hr : rb < w.heap.size) : Rr w' rb a m cap at_ ok := Keeps.blk (Below.keeps k) h (by omega)

theorem numS_bd (xs : List UInt8) (at_ : Nat) (ok : Bool) (h : at_ ≤ xs.length) : 0 ≤ (numS xs at_ ok).1 ∧ (numS xs at_ ok).1 ≤ 4611686018427387903 ∧ at_ ≤ (numS xs at_ ok).2.1 ∧ (numS xs at_ ok).2.1 ≤ xs.length := by
  unfold numS
  cases ok with
  | false => rw [if_pos rfl]; exact ⟨Int.le_refl _, by show (0 : Int) ≤ _; omega, Nat.le_refl _, h⟩
  | true =>
    rw [if_neg (by decide)]
    rcases rv_facts (xs.drop at_) with ⟨f1, _, _⟩ | ⟨k, k1, _, kl, g2, g1, g3, g4⟩
    · rw [f1, if_pos (by decide)]; exact ⟨Int.le_refl _, by show (0 : Int) ≤ _; omega, Nat.le_refl _, h⟩
    · rw [g1, g2, if_neg (by decide)]
      rw [List.length_drop] at kl
      exact ⟨g3, g4, by simp, by simp; omega⟩

/-- A number, a number, so many bytes. -/
theorem three (xs : List UInt8) (at_ : Nat) (hat : at_ ≤ xs.length) (s1 s2 : Int × Nat × Bool) (s3 : List UInt8 × Nat × Bool) (e1 : numS xs at_ true = s1) (e2 : numS xs s1.2.1 s1.2.2 = s2) (e3 : cutS xs s2.2.1 s2.2.2 s2.1.toNat = s3) :
    (oneR (xs.drop at_) = none ∧ s3.2.2 = false) ∨ (∃ t ys zs, oneR (xs.drop at_) = some (t, ys, zs) ∧ s1.1 = t ∧ s3.1 = ys ∧ xs.drop s3.2.1 = zs ∧ s3.2.2 = true ∧ s3.2.1 ≤ xs.length ∧ at_ < s3.2.1) := by
  rcases rv_facts (xs.drop at_) with ⟨f1, f2, f3⟩ | ⟨k, k1, k8, kl, g2, g1, g3, g4⟩
  · left
    refine ⟨oneR_1 f1, ?_⟩
    have h1 : s1 = (0, at_, false) := by rw [← e1]; unfold numS; rw [if_neg (by decide), f1, if_pos (by decide)]
    subst h1
    have h2 : s2 = (0, at_, false) := by rw [← e2]; rfl
    subst h2
    rw [← e3]; unfold cutS; rw [if_pos (.inl rfl)]
  · have h1 : s1 = (rvV (xs.drop at_), at_ + k, true) := by rw [← e1]; unfold numS; rw [if_neg (by decide), g1, g2, if_neg (by decide)]; simp
    have hd : (xs.drop at_).drop k = xs.drop (at_ + k) := List.drop_drop
    rw [List.length_drop] at kl
    subst h1
    rcases rv_facts (xs.drop (at_ + k)) with ⟨f1, f2, f3⟩ | ⟨j, j1, j8, jl, f2, f1, f3, f4⟩
    · left
      refine ⟨oneR_2 g1 g2 hd f1, ?_⟩
      have h2 : s2 = (0, at_ + k, false) := by rw [← e2]; unfold numS; rw [if_neg (by simp)]; simp only; rw [f1, if_pos (by decide)]
      subst h2
      rw [← e3]; unfold cutS; rw [if_pos (.inl rfl)]
    · have h2 : s2 = (rvV (xs.drop (at_ + k)), at_ + k + j, true) := by rw [← e2]; unfold numS; rw [if_neg (by simp)]; simp only; rw [f1, f2, if_neg (by decide)]; simp
      rw [List.length_drop] at jl
      have hx : at_ + k + j ≤ xs.length := by omega
      subst h2
      obtain ⟨n, hn⟩ : ∃ n : Nat, rvV (xs.drop (at_ + k)) = n := ⟨(rvV (xs.drop (at_ + k))).toNat, by omega⟩
      rw [hn] at e3
      by_cases hm : xs.length - (at_ + k + j) < n
      · left
        refine ⟨oneR_3 g1 g2 hd f1 hn f2 (by rw [List.length_drop]; omega), ?_⟩
        rw [← e3]; unfold cutS; rw [if_pos (.inr (by simpa using hm))]
      · right
        have hm2 : at_ + k + j + n ≤ xs.length := by omega
        have hc : s3 = ((xs.drop (at_ + k + j)).take n, at_ + k + j + n, true) := by
          rw [← e3]; unfold cutS; rw [if_neg (by simp; omega)]; simp
        subst hc
        refine ⟨_, _, _, oneR_4 g1 g2 hd f1 hn f2 (by rw [List.length_drop]; omega), rfl, ?_, ?_, rfl, by simp only; omega, by simp only; omega⟩
        · rw [List.drop_drop]
        · rw [List.drop_drop]
          simp only [Nat.add_assoc]

set_option maxRecDepth 100000 in
set_option maxHeartbeats 3200000 in
theorem pread_any (a : Option Addr) (m cap : Nat) (xs : List UInt8) (w : World) (hb : By w a m cap xs) (hl : m ≤ 1000000000) (hlt : ∀ b, a.map (·.block) = some b → b < w.heap.size) :
    Calls Try.prog 12 #[.slice a m cap] w (RdP w (rdR xs)) := by
  have HLT := Lib.hid hlt
  have HX := Lib.hid hb.1
  have HB0 := Lib.hid (hb.alloc (.cells #[.slice a m cap, .int .i64 0, .bool true] 57 (0, 0)))
  have HR : Hid (rdT (m + 1) (xs.drop 0) (prsL []) = rdR xs) := Lib.hid (by rw [hb.1]; rfl)
  have HRR : Hid (Rr (w.alloc (.cells #[.slice a m cap, .int .i64 0, .bool true] 57 (0, 0))) w.heap.size a m cap 0 true) := Lib.hid (Blk.new w _ _)
  have HK0 := Lib.hid ((Below.refl w.heap.size w).alloc (Nat.le_refl _) (.cells #[.slice a m cap, .int .i64 0, .bool true] 57 (0, 0)))
  have HS0 : Hid ((w.alloc (.cells #[.slice a m cap, .int .i64 0, .bool true] 57 (0, 0))).heap.size = w.heap.size + 1) := Lib.hid (by simp)
  clear hlt hb
  generalize rdR xs = r at *
  go_enter Try.func12, Try.ntmps12
  go_wp2_with fail
  generalize w.alloc (.cells #[.slice a m cap, .int .i64 0, .bool true] 57 (0, 0)) = W0 at *
  go_loopg [5] m (fun k vo wr => ∃ (at_ : Nat) (ao : Option Addr) (co : Nat) (l : List Fr), vo = .slice ao l.length co ∧ at_ ≤ m ∧ m - at_ ≤ k ∧ By wr a m cap xs ∧ Rr wr w.heap.size a m cap at_ true ∧ l.length ≤ 32 ∧ Po (w.heap.size + 1) wr ao co l ∧ rdT (k + 1) (xs.drop at_) (prsL l) = r ∧ Below w.heap.size w wr ∧ w.heap.size + 1 ≤ wr.heap.size)
  case atStart => exact ⟨0, none, 0, [], rfl, by omega, by omega, HB0.out, HRR.out, by simp, Po.nil _ _, HR.out, HK0.out, by rw [HS0.out]; omega⟩
  case round =>
    obtain ⟨at_, ao, co, l, rfl, hat, hmk, hby, hrr, hl32, hpo, hrd, hk, hsz⟩ := hrel
    have HBY := Lib.hid hby
    have HRR := Lib.hid hrr
    have HPO := Lib.hid hpo
    have HRD := Lib.hid hrd
    have HK := Lib.hid hk
    clear hby hrr hpo hrd hk
    obtain ⟨⟨c0, c1, c2⟩, y1, y2⟩ := HRR.out.cells
    by_cases hpos : at_ < m
    · obtain ⟨k', rfl⟩ : ∃ k', gk = k' + 1 := ⟨gk - 1, by omega⟩
      have HNE : Hid (xs.drop at_ ≠ []) := Lib.hid (by intro e; have := congrArg List.length e; have := HX.out; simp at *; omega)
      go_wp2_with fail
      refine (rnum_any w.heap.size a m cap xs at_ true wr HBY.out HRR.out hat hl).mono ?_
      rintro e w1 ⟨rfl, hr1, hk1⟩
      have HR1 := Lib.hid hr1
      have HB1 := Lib.hid (HBY.out.keep hk1 (fun b hb h => by have := HLT.out b hb; omega))
      have HP1 := Lib.hid (HPO.out.put hk1 (Nat.lt_succ_self _))
      have HK1 := Lib.hid (Keeps.below HK.out hk1 HK.out.size (fun k hk => by omega))
      have hs1 : wr.heap.size ≤ w1.heap.size := hk1.size
      clear hr1 hk1 c0 c1 c2 y1 y2
      obtain ⟨s1, e1⟩ : ∃ s, numS xs at_ true = s := ⟨_, rfl⟩
      have b1 := numS_bd xs at_ true (by rw [← HX.out]; exact hat)
      rw [e1] at b1 HR1 ⊢
      obtain ⟨v1, at1, ok1⟩ := s1
      obtain ⟨hv0, hv1, ha0, ha1⟩ := b1
      simp only at hv0 hv1 ha0 ha1 HR1
      have hx := HX.out
      have ha1m : at1 ≤ m := by omega
      clear hx
      dsimp only
      go_wp2_with fail
      refine (rnum_any w.heap.size a m cap xs at1 ok1 w1 HB1.out HR1.out ha1m hl).mono ?_
      rintro e w2 ⟨rfl, hr2, hk2⟩
      have HR2 := Lib.hid hr2
      have HB2 := Lib.hid (HB1.out.keep hk2 (fun b hb h => by have := HLT.out b hb; omega))
      have HP2 := Lib.hid (HP1.out.put hk2 (Nat.lt_succ_self _))
      have HK2 := Lib.hid (Keeps.below HK1.out hk2 HK1.out.size (fun k hk => by omega))
      have hs2 : wr.heap.size ≤ w2.heap.size := Nat.le_trans hs1 hk2.size
      clear hr2 hk2
      obtain ⟨s2, e2⟩ : ∃ s, numS xs at1 ok1 = s := ⟨_, rfl⟩
      have b2 := numS_bd xs at1 ok1 (by rw [← HX.out]; exact ha1m)
      rw [e2] at b2 HR2 ⊢
      obtain ⟨v2, at2, ok2⟩ := s2
      obtain ⟨hw0, hw1, hc0, hc1⟩ := b2
      simp only at hw0 hw1 hc0 hc1 HR2
      have hx := HX.out
      have ha2m : at2 ≤ m := by omega
      clear hx
      obtain ⟨n, rfl⟩ : ∃ n : Nat, v2 = n := ⟨v2.toNat, by omega⟩
      dsimp only
      go_wp2_with fail
      refine (rcut_any w.heap.size a m cap xs at2 ok2 n w2 HB2.out HR2.out ha2m hl (by omega) (by omega)).mono ?_
      rintro e w3 ⟨a3, n3, c3, rfl, ho3, hr3, hk3⟩
      have HR3 := Lib.hid hr3
      have HO3 := Lib.hid ho3
      have HB3 := Lib.hid (HB2.out.keep hk3 (fun b hb h => by have := HLT.out b hb; omega))
      have HP3 := Lib.hid (HP2.out.put hk3 (Nat.lt_succ_self _))
      have HK3 := Lib.hid (Keeps.below HK2.out hk3 HK2.out.size (fun k hk => by omega))
      have hs3 : w2.heap.size ≤ w3.heap.size := hk3.size
      clear hr3 hk3 ho3
      obtain ⟨s3, e3⟩ : ∃ s, cutS xs at2 ok2 n = s := ⟨_, rfl⟩
      have h3 := three xs at_ (by rw [← HX.out]; exact hat) (v1, at1, ok1) ((n : Int), at2, ok2) s3 e1 e2 (by simpa using e3)
      rw [e3] at HR3 HO3
      obtain ⟨bs, at3, ok3⟩ := s3
      simp only at HR3 HO3 h3
      clear e1 e2 e3
      have HRA := Lib.hid (Blk.alloc HR3.out (.cells #[.int .u64 v1, .slice a3 n3 c3] 42 (0, 0)))
      rcases h3 with ⟨hno, rfl⟩ | ⟨t, ys, zs, hon, rfl, rfl, hz, rfl, hle, hlt3⟩
      · have HEND : Hid (r = none) := Lib.hid (HRD.out.symm.trans (rdT_bad HNE.out hno))
        clear hno
        have c2 : (w3.alloc (.cells #[.int .u64 v1, .slice a3 n3 c3] 42 (0, 0))).cell? ⟨w.heap.size, 2, none⟩ = some (.bool false) := Blk.cell HRA.out 2
        have HKA := Lib.hid (HK3.out.alloc HK3.out.size (.cells #[.int .u64 v1, .slice a3 n3 c3] 42 (0, 0)))
        go_wp2_with fail
        go_returns
        rw [HEND.out]
        exact ⟨HKA.out, rfl⟩
      · have HON := Lib.hid hon
        have HZ := Lib.hid hz
        clear hon hz
        have htin : inU v1 := ⟨hv0, by omega⟩
        have c2 : (w3.alloc (.cells #[.int .u64 v1, .slice a3 n3 c3] 42 (0, 0))).cell? ⟨w.heap.size, 2, none⟩ = some (.bool true) := Blk.cell HRA.out 2
        have HKA := Lib.hid (HK3.out.alloc HK3.out.size (.cells #[.int .u64 v1, .slice a3 n3 c3] 42 (0, 0)))
        have HPA := Lib.hid (HP3.out.below ((Below.refl w3.heap.size w3).alloc (Nat.le_refl _) (.cells #[.int .u64 v1, .slice a3 n3 c3] 42 (0, 0))))
        have HQ := Lib.hid (Blk.new w3 #[.int .u64 v1, .slice a3 n3 c3] 42)
        have HTU := Lib.hid htin
        clear htin
        by_cases h32 : l.length = 32
        · have HEND : Hid (r = none) := Lib.hid (HRD.out.symm.trans (rdT_no HNE.out HON.out (.inr (by rw [prsL_length]; exact h32))))
          have z1 : (32 : Int) ≤ (l.length : Int) := by omega
          clear h32
          go_wp2_with fail
          go_returns
          rw [HEND.out]
          exact ⟨HKA.out, rfl⟩
        · have z1 : decide ((32 : Int) ≤ (l.length : Int)) = false := by simp; omega
          go_wp2_with fail
          clear c2
          have HA3 : Hid (∀ b, a3.map (·.block) = some b → w2.heap.size ≤ b ∧ b < w3.heap.size) := Lib.hid (fun b hb => HO3.out.ge b hb)
          go_loopg [8] l.length (fun g vk w' => ∃ (j : Nat), g + j = l.length ∧ vk = .int .i64 j ∧ v1 ∉ idL (l.take j) ∧ w' = w3.alloc (.cells #[.int .u64 v1, .slice a3 n3 c3] 42 (0, 0)))
          case atStart => exact ⟨0, by omega, rfl, by simp [idL], rfl⟩
          case round =>
            obtain ⟨j, hj, rfl, hni, rfl⟩ := hrel
            have HJ := Lib.hid hj
            have HNI := Lib.hid hni
            clear hj hni
            have HHV := Lib.hid HPA.out.hv
            have hlc := HHV.out.2.1.le
            have hlm := HHV.out.2.1.max
            unfold maxLen at hlm
            by_cases hjl : j < l.length
            · obtain ⟨b2, o2, rfl, _, hcell⟩ := HHV.out.get (by omega)
              have d0 := (hcell j hjl).1
              clear hcell
              have HTW : Hid (l[j].t = v1 → r = none) := Lib.hid (fun e => HRD.out.symm.trans (rdT_no HNE.out HON.out (.inl (by rw [prsL_ids, ← e]; exact List.mem_map.2 ⟨l[j], List.getElem_mem hjl, rfl⟩))))
              have HTK := Lib.hid (idL_take l j hjl)
              generalize l[j].t = x at *
              by_cases hx : x = v1
              · have HEND := Lib.hid (HTW.out hx)
                subst hx
                go_wp2_with fail
                go_returns
                rw [HEND.out]
                exact ⟨HKA.out, rfl⟩
              · have hb : (x == v1) = false := by simpa using hx
                have HXX := Lib.hid hx
                clear hx
                go_wp2_with fail
                obtain ⟨g', rfl⟩ : ∃ g', gk = g' + 1 := ⟨gk - 1, by have := HJ.out; omega⟩
                go_roundg g'
                case measure => omega
                case rel => exact ⟨j + 1, by have := HJ.out; omega, by go_num, by rw [HTK.out]; simp; exact ⟨HNI.out, fun e => HXX.out e.symm⟩, rfl⟩
            · have hjl2 : j = l.length := by have := HJ.out; omega
              have hnot : v1 ∉ idL l := by have := HNI.out; rwa [hjl2, List.take_length] at this
              have HGO : Hid (rdT (k' + 1) (xs.drop at3) (prsL (l ++ [⟨v1, a3, n3, c3, bs⟩])) = r) := Lib.hid (by
                rw [← HRD.out, rdT_go HNE.out HON.out (by
                  rw [prsL_ids, prsL_length]
                  rintro (h | h)
                  · exact hnot h
                  · omega), HZ.out]
                simp [prsL])
              obtain ⟨⟨q0, q1⟩, _⟩ := two_cells HQ.out
              have hl31 : l.length + 1 ≤ 32 := by omega
              obtain ⟨i0, hi0, hz0, hz1, hz2⟩ := info_parts infoP
              have HI := Lib.hid hi0
              have HZ0 := Lib.hid hz0
              have HZ1 := Lib.hid hz1
              have HZ2 := Lib.hid hz2
              clear hi0 hz0 hz1 hz2 hnot
              have HS4 : Hid ((w3.alloc (.cells #[.int .u64 v1, .slice a3 n3 c3] 42 (0, 0))).heap.size = w3.heap.size + 1) := Lib.hid (by simp)
              have HBB := Lib.hid (HB3.out.alloc (.cells #[.int .u64 v1, .slice a3 n3 c3] 42 (0, 0)))
              have HRB := Lib.hid HRA.out
              have HOA := Lib.hid (HO3.out.by.alloc (.cells #[.int .u64 v1, .slice a3 n3 c3] 42 (0, 0)))
              generalize (w3.alloc (.cells #[.int .u64 v1, .slice a3 n3 c3] 42 (0, 0))) = w4 at *
              go_wp2_with (at_builtin; refine halt ?_)
              refine Halted.go (wpList_app _ rfl _ _ 22 22 rfl (w.heap.size + 1) 42 i0 _ 2 32 Try.underlying22 HI.out HZ0.out HZ1.out HZ2.out rfl ao l.length co (Frs l) rfl (.inl (HPA.out.1.alloc (.cells #[.int .u64 v1, .slice a3 n3 c3] 42 (0, 0)))) (.slice (some ⟨w4.heap.size, 0, none⟩) 1 1) rfl 1 [.int .u64 v1, .slice a3 n3 c3] (src_par w4 v1 _ rfl) (by unfold maxLen; omega) (by omega) (by have := HS4.out; simp; omega) ?_)
              intro a5 c5 w5 _ hk5 hn5 hown5 _
              have hpoA : Po (w.heap.size + 1) (w4.alloc (.cells #[.int .u64 v1, .slice a3 n3 c3] 42 (0, 0))) ao co l := HPA.out.below ((Below.refl w4.heap.size w4).alloc (Nat.le_refl _) (.cells #[.int .u64 v1, .slice a3 n3 c3] 42 (0, 0)))
              have HPO5 : Hid (Po (w.heap.size + 1) w5 a5 c5 (l ++ [⟨v1, a3, n3, c3, bs⟩])) := Lib.hid (Po.snoc (f := ⟨v1, a3, n3, c3, bs⟩) hpoA hk5 hn5 (hown5 (by omega)) HTU.out (HOA.out.alloc _) (fun b hb => by
                have h1 := HA3.out b hb
                have h0 := HS4.out
                refine ⟨by omega, by simp; omega, fun e => ?_⟩
                have h2 := own_ge HP1.out.1 b e
                have h3 := own_ge HPO.out.1 b e
                omega))
              have HR5 : Hid (Rr w5 w.heap.size a m cap at3 true) := Lib.hid (hk5.blk (Blk.alloc HRB.out (.cells #[.int .u64 v1, .slice a3 n3 c3] 42 (0, 0))) (fun h => by have := h.1; omega))
              have HK5 := Lib.hid (Keeps.mine_below (HKA.out.alloc HKA.out.size (.cells #[.int .u64 v1, .slice a3 n3 c3] 42 (0, 0))) hk5 (by have := HS4.out; simp; omega) (Nat.le_succ _))
              have HB5 := Lib.hid ((HBB.out.alloc (.cells #[.int .u64 v1, .slice a3 n3 c3] 42 (0, 0))).keep hk5 (fun b hb h => by have := HLT.out b hb; have := h.1; omega))
              have hsz5 : w.heap.size + 1 ≤ w5.heap.size := by have := hk5.size; have := HS4.out; simp at *; omega
              clear hk5 hn5 hown5 hpoA q0 q1
              go_wp2_with fail
              go_roundg k'
              case measure => omega
              case rel => exact ⟨at3, a5, c5, l ++ [⟨v1, a3, n3, c3, bs⟩], by simp, by have := HX.out; omega, by have := HX.out; omega, HB5.out, HR5.out, by simp; omega, HPO5.out, HGO.out, HK5.out, hsz5⟩
    · have hxe : xs.drop at_ = [] := List.drop_eq_nil_of_le (by have := HX.out; omega)
      have HEND : Hid (r = some (prsL l)) := Lib.hid (by rw [← HRD.out, hxe]; exact rdT_end _ _)
      clear hxe
      go_wp2_with fail
      go_returns
      rw [HEND.out]
      exact ⟨HK.out, ao, co, l, rfl, rfl, HPO.out.mono (Nat.le_succ _)⟩

end Go.Proofs.Ytabdoikfcaiobaa
