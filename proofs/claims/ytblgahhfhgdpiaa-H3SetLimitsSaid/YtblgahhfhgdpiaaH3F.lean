/- ReadSettings of the packages h3frame and bifoldref26. -/
import Derived.Test.YtblgahhfhgdpiaaH3E
import Derived.Deep.RegionLaw
namespace Go.Proofs.Ytblgahhfhgdpiaa
open Go.RowKit Go.Deep Go.Maps Go.ChangeShapes Go.WideShapes

/-- A row of settings of one's own. -/
def So (base : Nat) (w : World) (a : Option Addr) (n cap : Nat) (l : List (Int × Int)) : Prop := n = l.length ∧ w.ownsRow base 57 2 (.slice a n cap) n (Ss l) ∧ ∀ f ∈ l, inU f.1 ∧ inU f.2
theorem So.sv {base : Nat} {w : World} {a : Option Addr} {n cap : Nat} {l : List (Int × Int)} (h : So base w a n cap l) : Sv w a n cap l := ⟨h.1, own_vw h.2.1, h.2.2⟩
theorem So.nil (base : Nat) (w : World) : So base w none 0 0 [] := ⟨rfl, World.ownsRow_nil w base _ 2, fun _ h => by cases h⟩
theorem So.ge {base : Nat} {w : World} {a : Option Addr} {n cap : Nat} {l : List (Int × Int)} (h : So base w a n cap l) : ∀ b, a.map (·.block) = some b → base ≤ b ∧ b < w.heap.size := by
  intro b hb
  refine h.2.1.lt b ?_
  cases a with
  | none => cases hb
  | some a => simpa [Value.ownBlock] using hb
theorem So.keep {base : Nat} {w w' : World} {S : Nat → Prop} {a : Option Addr} {n cap : Nat} {l : List (Int × Int)} (h : So base w a n cap l) (k : Keeps S w w') (hs : ∀ b, a.map (·.block) = some b → ¬ S b) : So base w' a n cap l := ⟨h.1, own_keep h.2.1 k hs, h.2.2⟩
theorem So.mono {base base' : Nat} {w : World} {a : Option Addr} {n cap : Nat} {l : List (Int × Int)} (h : So base w a n cap l) (hb : base' ≤ base) : So base' w a n cap l := by
  refine ⟨h.1, ⟨h.2.1.1, ?_⟩, h.2.2⟩
  rcases h.2.1.2 with h0 | ⟨g, cap', cur, hv, hg, rest⟩
  · exact .inl h0
  · exact .inr ⟨g, cap', cur, hv, by omega, rest⟩
theorem So.below {base : Nat} {w w' : World} {a : Option Addr} {n cap : Nat} {l : List (Int × Int)} (h : So base w a n cap l) (k : Below w.heap.size w w') : So base w' a n cap l :=
  h.keep (Below.keeps k) (fun b hb hle => by have := (h.ge b hb).2; omega)
theorem Sv.below {w w' : World} {B : Nat} {a : Option Addr} {n cap : Nat} {l : List (Int × Int)} (h : Sv w a n cap l) (k : Below B w w') (hs : ∀ b, a.map (·.block) = some b → b < B) : Sv w' a n cap l := ⟨h.1, h.2.1.below k hs, h.2.2⟩
theorem Sv.drewN {w : World} {a : Option Addr} {n cap : Nat} {l : List (Int × Int)} (h : Sv w a n cap l) (q : Nat) : Sv (w.drewN q) a n cap l := ⟨h.1, h.2.1.drewN q, h.2.2⟩
theorem Sv.nil (w : World) : Sv w none 0 0 [] := ⟨rfl, Vw.nil w 2, fun _ h => by cases h⟩

theorem infoS : (Try.prog.info? 57).map (fun i => (i.zero, i.size, i.bytes)) = some (some (.agg #[.int .u64 0, .int .u64 0]), 2, 16) := by kernel_rfl

/-- The setting that append(out, x) has made for x. -/
theorem src_set (w : World) (x y : Int) : Src Try.prog 2 45 (.slice (some ⟨w.heap.size, 0, none⟩) 1 1) 1 (Ss [(x, y)]) (w.alloc (.cells #[.int .u64 x, .int .u64 y] 57 (0, 0))) := by
  refine Src.ofSlice _ Try.underlying45 _ _ _ _ rfl (fun j u hj => ?_) (fun u hu => ?_)
  · rw [add_plain, Nat.zero_add, (Blk.new w _ _).cell j]
    simpa [Ss] using hj
  · simp [Ss] at hu
    rcases hu with rfl | rfl <;> rfl

theorem src_set_d (w : World) (x y : Int) : Src Try.prog 2 45 (.slice (some ⟨w.heap.size, 0, none⟩) 1 1) 1 (Ss [(x, y)]) (w.alloc (.cells #[.int .u64 x, .int .u64 y] 57 (0, 0))).drew := by
  refine Src.ofSlice _ Try.underlying45 _ _ _ _ rfl (fun j u hj => ?_) (fun u hu => ?_)
  · rw [add_plain, Nat.zero_add, (Blk.new w _ _).drew.cell j]
    simpa [Ss] using hj
  · simp [Ss] at hu
    rcases hu with rfl | rfl <;> rfl

/-- append as one step of a region that draws. -/
theorem step_app {P : Program} {ops : Array Oper} {o : Oper} {ac : Act} {w : World} {K : Act → World → Prop} {Q : Exit → Act → World → Prop} {E : Prop}
    (hg : o.guard = none) (s x : Operand) (t tx : TypeId) (hop : o.op = Op.call { callee := Callee.builtin Builtin.append, args := #[s, x], argTypes := #[t, tx] }) (base : Nat) (e : TypeId) (i : TypeInfo) (z : Value) (size bytes : Nat)
    (h1 : P.underlying t = some (.slice e)) (h2 : P.info? e = some i) (h3 : i.zero = some z) (h4 : i.size = size) (h5 : i.bytes = bytes) (h6 : z.cells.size = size)
    (a : Option Addr) (n cap : Nat) (cs : List Value) (hs : ac.eval s = .slice a n cap) (hd : Dst base e size w a n cap cs) (u : Value) (hx : ac.eval x = u) (m : Nat) (news : List Value) (hsrc : Src P size tx u m news w)
    (b1 : n + m ≤ maxLen) (b2 : (n + m) * bytes ≤ 140737488355328) (hb : base ≤ w.heap.size)
    (hK : ∀ a' cap' w', Dst base e size w' a' (n + m) cap' (cs ++ news) → Keeps (mine base a) w w' → Near base w a a' →
      (0 < m → w'.ownsRow base e size (.slice a' (n + m) cap') (n + m) (cs ++ news)) → (m = 0 → cap' = cap ∧ a' = a ∧ w' = w) → K (ac.put o.dst (.slice a' (n + m) cap')) w') :
    if Region.wanted o (yielded ops ac.tmps) = true then Oper.wp P o ac w K Q else E := by
  have hw : Region.wanted o (yielded ops ac.tmps) = true := by simp [Region.wanted, hg]
  rw [if_pos hw]
  obtain ⟨a', cap', w', hrun, r1, r2, r3, r4, r5⟩ := run_app (P := P) w base t tx o.type e i z size bytes h1 h2 h3 h4 h5 h6 a n cap cs hd u m news hsrc b1 b2 hb
  unfold Oper.wp
  simp [execOp, hop, resolve, invoke, builtin, hs, hx, hrun, Result.andThen]
  exact hK a' cap' w' r1 r2 r3 r4 r5

/-- What settings read as: of what is left of the bytes, behind those that have been read. -/
def rsBad (out : List (Int × Int)) (x : Int) : Bool := decide (idsN out x ≠ 0 ∨ x = 0 ∨ (2 ≤ x ∧ x ≤ 5) ∨ out.length = 32)
def rsT : Nat → List UInt8 → List (Int × Int) → List (Int × Int) × Int
  | 0, _, out => (out, 0)
  | k + 1, xs, out =>
    if xs.length = 0 then (out, 0)
    else if rvE xs ≠ 0 then ([], 1)
    else if rvE (xs.drop (rvL xs).toNat) ≠ 0 then ([], 1)
    else if rsBad out (rvV xs) then ([], 4)
    else rsT k ((xs.drop (rvL xs).toNat).drop (rvL (xs.drop (rvL xs).toNat)).toNat) (out ++ [(rvV xs, rvV (xs.drop (rvL xs).toNat))])
def rsR (t : Int) (xs : List UInt8) : List (Int × Int) × Int := if t = 4 then rsT (xs.length + 1) xs [] else ([], 9)

theorem rsT_0 {f : Nat} {xs : List UInt8} {out : List (Int × Int)} (h : xs.length = 0) : rsT f xs out = (out, 0) := by
  cases f with
  | zero => rfl
  | succ f => rw [rsT, if_pos h]
theorem rsT_1 {f : Nat} {xs : List UInt8} {out : List (Int × Int)} (h : 0 < xs.length) (hf : xs.length < f) (h1 : rvE xs = 20) : rsT f xs out = ([], 1) := by
  obtain ⟨f, rfl⟩ : ∃ k, f = k + 1 := ⟨f - 1, by omega⟩
  rw [rsT, if_neg (by omega), if_pos (by rw [h1]; decide)]
theorem rsT_2 {f : Nat} {xs ys : List UInt8} {k : Nat} {out : List (Int × Int)} (h : 0 < xs.length) (hf : xs.length < f) (h1 : rvE xs = 0) (h2 : rvL xs = k) (hy : xs.drop k = ys) (h3 : rvE ys = 20) : rsT f xs out = ([], 1) := by
  obtain ⟨f, rfl⟩ : ∃ k, f = k + 1 := ⟨f - 1, by omega⟩
  rw [rsT, if_neg (by omega), h1, h2, Int.toNat_natCast, hy, h3, if_neg (by decide), if_pos (by decide)]
theorem rsT_3 {f : Nat} {xs ys : List UInt8} {k : Nat} {out : List (Int × Int)} (h : 0 < xs.length) (hf : xs.length < f) (h1 : rvE xs = 0) (h2 : rvL xs = k) (hy : xs.drop k = ys) (h3 : rvE ys = 0) (hb : rsBad out (rvV xs) = true) : rsT f xs out = ([], 4) := by
  obtain ⟨f, rfl⟩ : ∃ k, f = k + 1 := ⟨f - 1, by omega⟩
  rw [rsT, if_neg (by omega), h1, h2, Int.toNat_natCast, hy, h3, if_neg (by decide), if_neg (by decide), if_pos hb]
theorem rsT_4 {f : Nat} {xs ys : List UInt8} {k j : Nat} {out : List (Int × Int)} (h : 0 < xs.length) (hf : xs.length < f) (h1 : rvE xs = 0) (h2 : rvL xs = k) (hy : xs.drop k = ys) (h3 : rvE ys = 0) (h4 : rvL ys = j) (hb : rsBad out (rvV xs) = false) :
    rsT f xs out = rsT (f - 1) (xs.drop (k + j)) (out ++ [(rvV xs, rvV ys)]) := by
  obtain ⟨f, rfl⟩ : ∃ k, f = k + 1 := ⟨f - 1, by omega⟩
  rw [rsT, if_neg (by omega), h1, h2, Int.toNat_natCast, hy, h3, h4, hb, if_neg (by decide), if_neg (by decide), if_neg (by decide), Int.toNat_natCast, ← hy, List.drop_drop]
  rfl

/-- A slice of bytes that stays, whatever is made. -/
def Stay (B : Nat) (w : World) (a : Option Addr) (n cap : Nat) (xs : List UInt8) : Prop := ∀ w', Below B w w' → By w' a n cap xs
theorem Stay.from {B : Nat} {w : World} {a : Option Addr} {n cap : Nat} {xs : List UInt8} (h : Stay B w a n cap xs) (lo : Nat) (hl : lo ≤ n) : Stay B w (offA a cap lo) (n - lo) (cap - lo) (xs.drop lo) := fun w' hb => (h w' hb).from lo hl

theorem ids_append (l : List (Int × Int)) (x y z : Int) (h0 : idsN l x = 0) : (if z = x then idsN l x + 1 else idsN l z) = idsN (l ++ [(x, y)]) z := by
  rw [h0]
  unfold idsN
  rw [List.map_append]
  by_cases e : z = x
  · subst e; simp
  · rw [if_neg e]
    have : (z ∈ l.map (·.1) ++ [(x, y)].map (·.1)) ↔ z ∈ l.map (·.1) := by simp [e]
    simp only [this]

set_option maxHeartbeats 3200000 in
theorem rset_any (t : Int) (a : Option Addr) (n cap : Nat) (xs : List UInt8) (w : World) (hv : Stay w.heap.size w a n cap xs) (hbig : n ≤ 1000000) :
    Calls Try.prog 20 #[.agg #[.int .u64 t, .slice a n cap]] w fun e w' => ∃ a' n' cap', e = .returned (.tuple #[.slice a' n' cap', .int .i64 (rsR t xs).2]) ∧ So w.heap.size w' a' n' cap' (rsR t xs).1 ∧ Below w.heap.size w w' := by
  have hv0 := hv w (Below.refl _ _)
  have HN := Lib.hid hv0.1
  have HV := Lib.hid hv
  clear hv hv0
  by_cases h4 : t = 4
  · subst h4
    have HR : Hid (rsR 4 xs = rsT (xs.length + 1) xs []) := by show _ = _; unfold rsR; rw [if_pos rfl]
    have hmm := @run_makeMap Try.prog
    go_enter Try.func20, Try.ntmps20
    go_wp2_with fail
    clear hmm
    have m0 : Mp ((w.alloc (.cells #[.int .u64 4, .slice a n cap] 33 (0, 0))).alloc (.map #[] 0)) (w.heap.size + 1) 0 (fun _ => 0) := by
      have := Mp.made (w.alloc (.cells #[.int .u64 4, .slice a n cap] 33 (0, 0)))
      rwa [World.size_alloc] at this
    have hbel : Below w.heap.size w ((w.alloc (.cells #[.int .u64 4, .slice a n cap] 33 (0, 0))).alloc (.map #[] 0)) := ((Below.refl _ _).alloc (Nat.le_refl _) _).alloc (by simp) _
    have hsize : ((w.alloc (.cells #[.int .u64 4, .slice a n cap] 33 (0, 0))).alloc (.map #[] 0)).heap.size = w.heap.size + 2 := by simp
    generalize (w.alloc (.cells #[.int .u64 4, .slice a n cap] 33 (0, 0))).alloc (.map #[] 0) = W0 at *
    have M0 := Lib.hid m0
    have HBEL := Lib.hid hbel
    have HSZ := Lib.hid hsize
    clear m0 hbel hsize
    go_loopg [5, 6] n (fun k vo vb wr => ∃ (f : Nat) (out : List (Int × Int)) (ao : Option Addr) (co : Nat) (ab : Option Addr) (cb : Nat) (ys : List UInt8), vo = .slice ao out.length co ∧ vb = .slice ab k cb ∧ k ≤ n ∧ k = ys.length ∧ ys.length < f ∧ rsT f ys out = rsT (xs.length + 1) xs [] ∧ out.length ≤ 32 ∧ Stay w.heap.size w ab k cb ys ∧ So (w.heap.size + 2) wr ao out.length co out ∧ Mp wr (w.heap.size + 1) out.length (idsN out) ∧ Below w.heap.size w wr ∧ w.heap.size + 2 ≤ wr.heap.size)
    case atStart => exact ⟨xs.length + 1, [], none, 0, a, cap, xs, rfl, rfl, Nat.le_refl _, HN.out, Nat.lt_succ_self _, rfl, by simp, HV.out, So.nil _ _, M0.out.as (fun x => by simp [idsN]), HBEL.out, by rw [HSZ.out]; omega⟩
    case round =>
      obtain ⟨f, out, ao, co, ab, cb, ys, rfl, rfl, hkn, hky, hf, hrs, h32, hst, hso, hmp, hk, hsz⟩ := hrel
      have HF := Lib.hid hf
      have HRS := Lib.hid hrs
      have HST := Lib.hid hst
      have HSO := Lib.hid hso
      have HMP := Lib.hid hmp
      have HK := Lib.hid hk
      have HKY := Lib.hid hky
      clear hf hrs hst hso hmp hk hky
      by_cases h0 : gk = 0
      · subst h0
        have HE : Hid (rsR 4 xs = (out, 0)) := by show _ = _; rw [HR.out, ← HRS.out, rsT_0 HKY.out.symm]
        go_wp2_with fail
        go_returns
        rw [HE.out]
        exact ⟨ao, out.length, co, rfl, HSO.out.mono (by omega), HK.out⟩
      · have hpos : 0 < gk := by omega
        have hyp : 0 < ys.length := by have := HKY.out; omega
        have hby := HST.out wr HK.out
        have hcb := hby.2.le
        have hmb := hby.2.max
        unfold maxLen at hmb
        have HBY := Lib.hid hby
        clear hby h0
        rcases rv_facts ys with ⟨f1, f2, f3⟩ | ⟨k, k1, k8, kl, g1, g2, g3, g4⟩
        · have F1 := Lib.hid f1
          have F2 := Lib.hid f2
          have F3 := Lib.hid f3
          have HE : Hid (rsR 4 xs = ([], 1)) := by show _ = _; rw [HR.out, ← HRS.out, rsT_1 hyp HF.out f1]
          clear f1 f2 f3
          go_wp2_with fail
          refine (readvar_any ab gk cb ys wr HBY.out).mono ?_
          rintro e w' ⟨rfl, rfl⟩
          rw [F1.out, F2.out, F3.out]
          go_wp2_with fail
          go_returns
          rw [HE.out]
          exact ⟨none, 0, 0, rfl, So.nil _ _, HK.out⟩
        · have G1 := Lib.hid g1
          have G2 := Lib.hid g2
          clear g1 g2
          have ho := offA_eq ab cb k
          have hkg : k ≤ gk := by have := HKY.out; omega
          go_wp2_with fail
          refine (readvar_any ab gk cb ys wr HBY.out).mono ?_
          rintro e w' ⟨rfl, rfl⟩
          rw [G1.out, G2.out]
          have HV1 := Lib.hid (rfl : rvV ys = rvV ys)
          generalize hv1 : rvV ys = v at *
          have HB2 := Lib.hid (HBY.out.from k hkg)
          generalize hys : ys.drop k = zs at *
          have HYS := Lib.hid hys
          have HVV := Lib.hid hv1
          have HZL : Hid (zs.length = gk - k) := by show _ = _; rw [← hys, List.length_drop, ← HKY.out]
          clear hys hv1 HV1
          go_wp2_with fail
          refine (readvar_any _ _ _ zs _ HB2.out).mono ?_
          rintro e w' ⟨rfl, rfl⟩
          rcases rv_facts zs with ⟨f1, f2, f3⟩ | ⟨j, j1, j8, jl, f1, f2, f3, f4⟩
          · have F1 := Lib.hid f1
            have F2 := Lib.hid f2
            have HE : Hid (rsR 4 xs = ([], 1)) := by show _ = _; rw [HR.out, ← HRS.out, rsT_2 hyp HF.out G2.out G1.out HYS.out f1]
            clear f1 f2
            rw [F1.out, F2.out, f3]
            go_wp2_with fail
            go_returns
            rw [HE.out]
            exact ⟨none, 0, 0, rfl, So.nil _ _, HK.out⟩
          · have F1 := Lib.hid f1
            have F2 := Lib.hid f2
            clear f1 f2
            rw [F1.out, F2.out]
            generalize hv2 : rvV zs = v2 at *
            have HV2 := Lib.hid hv2
            clear hv2
            have hU : inU v := ⟨by omega, by omega⟩
            have HU := Lib.hid hU
            clear hU
            have hkj : k + j ≤ gk := by have := HZL.out; omega
            have ho2 := offA_eq ab cb (k + j)
            have ho3 : (if cb = ((k : Int) + (j : Int)).toNat then ab else ab.map (fun x => x.add ((k : Int) + (j : Int)).toNat)) = offA ab cb (k + j) := by rw [show ((k : Int) + (j : Int)).toNat = k + j by omega]; rfl
            clear ho
            have hib := idsN_bd out v
            go_wp2_with (at_lookup; refine halt ?_)
            refine Halted.go (wpMp_lookup _ rfl _ _ rfl (w.heap.size + 1) out.length (idsN out) rfl HMP.out v rfl HU.out ?_)
            go_wp2_with (at_mapUpdate; refine halt ?_)
            refine Halted.go (wpMp_update _ rfl _ _ _ rfl (w.heap.size + 1) out.length (idsN out) rfl HMP.out (by omega) v (idsN out v + 1) rfl HU.out rfl (by omega) (by omega) ?_)
            intro w1 hm1 hk1
            have HM1 := Lib.hid hm1
            have HK1 := Lib.hid (Keeps.below HK.out hk1 HK.out.size (fun k hk => by omega))
            have HSO1 := Lib.hid (HSO.out.keep hk1 (fun b hb e => by have := (HSO.out.ge b hb).1; omega))
            have hsz1 : w.heap.size + 2 ≤ w1.heap.size := by have := hk1.size; omega
            clear hm1 hk1
            go_wp2_with (at_lookup; refine halt ?_)
            refine Halted.go (wpMp_lookup _ rfl _ _ rfl (w.heap.size + 1) (out.length + 1) _ rfl HM1.out v rfl HU.out ?_)
            simp only [if_true]
            by_cases hbad : rsBad out v = true
            · have HE : Hid (rsR 4 xs = ([], 4)) := by show _ = _; rw [HR.out, ← HRS.out, rsT_3 hyp HF.out G2.out G1.out HYS.out F2.out (by rw [HVV.out]; exact hbad)]
              have hcase : (1 < idsN out v + 1) ∨ (idsN out v + 1 ≤ 1 ∧ v = 0) ∨ (idsN out v + 1 ≤ 1 ∧ 2 ≤ v ∧ v ≤ 5) ∨ (idsN out v + 1 ≤ 1 ∧ 5 < v ∧ out.length = 32) ∨ (idsN out v + 1 ≤ 1 ∧ v = 1 ∧ out.length = 32) := by
                unfold rsBad at hbad
                simp only [decide_eq_true_eq] at hbad
                omega
              clear hbad
              rcases hcase with h | ⟨h, hz⟩ | ⟨h, hz1, hz2⟩ | ⟨h, hz, hl⟩ | ⟨h, hz, hl⟩
              · go_wp2_with fail
                go_returns
                rw [HE.out]
                exact ⟨none, 0, 0, rfl, So.nil _ _, HK1.out⟩
              · have hb1 : (v == 0) = true := by simp [hz]
                have hd : decide (1 < idsN out v + 1) = false := by simp; omega
                clear hz
                go_wp2_with fail
                go_returns
                rw [HE.out]
                exact ⟨none, 0, 0, rfl, So.nil _ _, HK1.out⟩
              · have hb1 : (v == 0) = false := by simp; omega
                have hd : decide (1 < idsN out v + 1) = false := by simp; omega
                go_wp2_with fail
                go_returns
                rw [HE.out]
                exact ⟨none, 0, 0, rfl, So.nil _ _, HK1.out⟩
              · have hb1 : (v == 0) = false := by simp; omega
                have hb2 : ((out.length : Int) == 32) = true := by simp; omega
                have hd : decide (1 < idsN out v + 1) = false := by simp; omega
                clear hl
                go_wp2_with fail
                go_returns
                rw [HE.out]
                exact ⟨none, 0, 0, rfl, So.nil _ _, HK1.out⟩
              · have hb1 : (v == 0) = false := by simp; omega
                have hb2 : ((out.length : Int) == 32) = true := by simp; omega
                have hd : decide (1 < idsN out v + 1) = false := by simp; omega
                have hv3 : v < 2 := by omega
                have hv4 : 0 < v := by omega
                clear hl hz
                go_wp2_with fail
                go_returns
                rw [HE.out]
                exact ⟨none, 0, 0, rfl, So.nil _ _, HK1.out⟩
            · have hb4 : rsBad out v = false := by simpa using hbad
              have HRS2 : Hid (rsT (f - 1) (ys.drop (k + j)) (out ++ [(v, v2)]) = rsT (xs.length + 1) xs []) := by
                show _ = _
                rw [← HRS.out, rsT_4 hyp HF.out G2.out G1.out HYS.out F2.out F1.out (by rw [HVV.out]; exact hb4), HVV.out, HV2.out]
              have hnot : idsN out v + 1 ≤ 1 ∧ v ≠ 0 ∧ ¬ (2 ≤ v ∧ v ≤ 5) ∧ out.length ≠ 32 := by
                unfold rsBad at hbad
                simp only [decide_eq_true_eq] at hbad
                omega
              clear hbad hb4
              obtain ⟨n1, n2, n3, n4⟩ := hnot
              have hids0 : idsN out v = 0 := by omega
              have HMN := Lib.hid (HM1.out.as (fun z => ids_append out v v2 z hids0))
              have hb1 : (v == 0) = false := by simp; omega
              have hb2 : ((out.length : Int) == 32) = false := by simp; omega
              have hd : decide (1 < idsN out v + 1) = false := by simp; omega
              obtain ⟨i0, hi, hz0, hz1, hz2⟩ := info_parts infoS
              have HI := Lib.hid hi
              have HZ0 := Lib.hid hz0
              have HZ1 := Lib.hid hz1
              have HZ2 := Lib.hid hz2
              clear hi hz0 hz1 hz2 hids0 n2 n4
              have hout : out.length < 32 := by have : out.length ≠ 32 := by simpa [← Int.ofNat_inj] using (by simpa using hb2)
                                                omega
              have HDS : Hid (Dst (w.heap.size + 2) 57 2 (w1.alloc (.cells #[.int .u64 v, .int .u64 v2] 57 (0, 0))).drew ao out.length co (Ss out)) := (Dst.alloc (.inl HSO1.out.2.1) _).keep (Keeps.drew (Keeps.refl (fun _ => False) _)) (fun _ _ h => h)
              have hszd : w.heap.size + 2 ≤ (w1.alloc (.cells #[.int .u64 v, .int .u64 v2] 57 (0, 0))).drew.heap.size := by show _ ≤ (w1.alloc _).heap.size; simp; omega
              have hkjI0 : (0 : Int) ≤ (k : Int) + (j : Int) := by omega
              have hkjI1 : (k : Int) + (j : Int) ≤ (gk : Int) := by omega
              have hw1 : IntKind.i64.wrap ((k : Int) + (j : Int)) = (k : Int) + (j : Int) := IntWalk.i64_in _ (by omega)
              have hv5 : (0 < v ∧ v < 2) ∨ (2 ≤ v ∧ 5 < v) := by
                have : v ≠ 0 := by simpa using hb1
                omega
              clear n3
              rcases hv5 with ⟨v5, v6⟩ | ⟨v5, v6⟩
              all_goals (
                go_wp2_with fail
                go_region_law ((refine step_app (by rfl) _ _ 45 45 (by rfl) (w.heap.size + 2) 57 i0 _ 2 16 Try.underlying45 HI.out HZ0.out HZ1.out HZ2.out rfl ao out.length co (Ss out) (by rfl) HDS.out (.slice (some ⟨w1.heap.size, 0, none⟩) 1 1) (by rfl) 1 (Ss [(v, v2)]) (src_set_d w1 v v2) (by unfold maxLen; omega) (by omega) hszd ?_; intro a3 c3 w3 hd3 hk3 hn3 hown3 _))
                all_goals (
                  have hso3 : So (w.heap.size + 2) w3 a3 (out.length + 1) c3 (out ++ [(v, v2)]) := by
                    refine ⟨by simp, by have h := hown3 (by omega); rwa [Ss_append] at h, fun p hp => ?_⟩
                    rcases List.mem_append.1 hp with hp | hp
                    · exact HSO.out.2.2 p hp
                    · simp at hp
                      subst hp
                      exact ⟨HU.out, by constructor <;> omega⟩
                  have HSO3 := Lib.hid hso3
                  have HK3 := Lib.hid (Keeps.mine_below ((HK1.out.alloc (by omega) (.cells #[.int .u64 v, .int .u64 v2] 57 (0, 0))).drew) hk3 (by show _ ≤ (w1.alloc _).heap.size; simp; omega) (by omega))
                  have HM3 := Lib.hid (((HMN.out.alloc (.cells #[.int .u64 v, .int .u64 v2] 57 (0, 0))).drew).keep hk3 (fun h => by have := h.1; omega))
                  have HS3 : Hid (w.heap.size + 2 ≤ w3.heap.size) := by show _ ≤ _; have := hk3.size; have h2 : w1.heap.size ≤ (w1.alloc (.cells #[.int .u64 v, .int .u64 v2] 57 (0, 0))).drew.heap.size := (by show _ ≤ (w1.alloc _).heap.size; simp); omega
                  clear hd3 hk3 hn3 hown3 hso3
                  go_wp2_with fail
                  go_roundg (gk - (k + j))
                  case measure => omega
                  case rel =>
                    have hyl : (ys.drop (k + j)).length = gk - (k + j) := by rw [List.length_drop, ← HKY.out]
                    refine ⟨f - 1, out ++ [(v, v2)], a3, c3, offA ab cb (k + j), cb - (k + j), ys.drop (k + j), by simp, rfl, by omega, hyl.symm, by have := HF.out; have := HKY.out; omega, HRS2.out, by simp; omega, HST.out.from (k + j) hkj, by simpa using HSO3.out, by simpa using HM3.out, HK3.out, HS3.out⟩))
  · have hne : (t != 4) = true := by simp [h4]
    have HR : Hid (rsR t xs = ([], 9)) := by show _ = _; unfold rsR; rw [if_neg h4]
    go_enter Try.func20, Try.ntmps20
    go_wp2_with fail
    go_returns
    rw [HR.out]
    exact ⟨none, 0, 0, rfl, So.nil _ _, (Below.refl _ _).alloc (Nat.le_refl _) _⟩

end Go.Proofs.Ytblgahhfhgdpiaa
