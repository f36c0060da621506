/- Decode of the package huff. -/
import Derived.Test.YticdjfmebmblaaaHufH
import Derived.Deep.DeepCutAuto
namespace Go.Proofs.Yticdjfmebmblaaa
open Go.RowKit Go.Deep

theorem or_bit {now bt : Nat} (h : now < 4294967296) (hb : bt < 2) : bits .or .i64 ((now : Int) * 2) (bt : Int) = ((2 * now + bt : Nat) : Int) := by
  have e : (now : Int) * 2 = ((2 * now : Nat) : Int) := by omega
  have hj : (2 * now) ||| bt = 2 * now + bt := nat_join1 _ _ (by omega) hb
  rw [e]
  show IntKind.i64.wrap ((BitVec.ofInt 64 ((2 * now : Nat) : Int) ||| BitVec.ofInt 64 (bt : Int)).toNat : Int) = _
  rw [BitVec.toNat_or, ofInt_u64 (2 * now) (by omega), ofInt_u64 bt (by omega), hj, IntKind.wrap_i64]
  omega
theorem and_bit {x : Nat} (k : Nat) (hx : x < 256) : bits .and .u8 ((x : Int) / 2 ^ k) 1 = ((x / 2 ^ k % 2 : Nat) : Int) := by
  have e : (x : Int) / 2 ^ k = ((x / 2 ^ k : Nat) : Int) := by rw [Int.natCast_ediv, cast_two_pow]
  have hd : x / 2 ^ k ≤ x := Nat.div_le_self _ _
  rw [e, show (1 : Int) = ((1 : Nat) : Int) from rfl, u8_and_nat _ 1 (by omega) (by omega), Nat.and_one_is_mod]

theorem upon_str {P : Program} {o : Oper} {a : Act} {K : Act → World → Prop} {Q : Exit → Act → World → Prop} {src dst : TypeId} {v : Value} {s : ByteArray} {w : World} (h : (convert src dst v).run P w = .ok (.string s) w) (hk : K (a.put o.dst (.string s)) w) :
    o.upon P a K Q (((convert src dst v).run P w).andThen fun a w' => .ok (.value a) w') := by rw [h]; exact hk
theorem By.upon {w : World} {a : Option Addr} {n cap : Nat} {xs : List UInt8} (h : By w a n cap xs) {o : Oper} {ac : Act} {K : Act → World → Prop} {Q : Exit → Act → World → Prop} (hk : K (ac.put o.dst (.string ⟨xs.toArray⟩)) w) :
    o.upon Try.prog ac K Q (((convert 22 9 (.slice a n cap)).run Try.prog w).andThen fun a w' => .ok (.value a) w') :=
  upon_str (h.str _ 5 _ Try.underlying22 Try.underlying5 Try.underlying9) hk

theorem B_of {s : Nat} (h : s < 256) : Value.int .u8 (s : Int) = B (UInt8.ofNat s) := by
  unfold B
  rw [UInt8.toNat_ofNat', Nat.mod_eq_of_lt (by omega)]

theorem ones_eq (bt : Nat) : ((bt : Int) == 1) = (true && bt == 1) := by
  rw [Bool.true_and, Bool.eq_iff_iff]
  simp
  omega

def ByteStr (l : List UInt8) : ByteArray := ⟨l.toArray⟩

set_option maxRecDepth 100000 in
set_option maxHeartbeats 6400000 in
theorem decode_any (a : Option Addr) (m cap : Nat) (xs : List UInt8) (w : World) (hb : By w a m cap xs) (hm : m ≤ 1000000) (hab : ∀ b, a.map (·.block) = some b → b < w.heap.size) :
    Calls Try.prog 14 #[.slice a m cap] w fun e w' => e = .returned (.tuple #[.string (ByteStr (decN xs).1), .int .i64 ((decN xs).2 : Nat)]) ∧ Below w.heap.size w w' := by
  have HB := Lib.hid hb
  have HAB := Lib.hid hab
  have hlen := hb.1
  clear hb hab
  obtain ⟨hzv, hiv⟩ := zero_of_info info_v
  obtain ⟨hzo, hio⟩ := zero_of_info info_o
  have gv : (Try.prog.info? 53).map (·.size) = some (Ns .i64 lvL).size := by rw [hiv, Ns_size, lvL_length]
  have go : (Try.prog.info? 54).map (·.size) = some (Ns .i64 orderL).size := by rw [hio, Ns_size, orderL_length]
  have GV := Lib.hid gv
  have GO := Lib.hid go
  have HLEN := Lib.hid hlen
  clear hiv hio gv go hlen
  go_enter Try.func14, Try.ntmps14
  go_wp2_with (go_at_call 20; refine (levels_any _).mono ?_; rintro e w1 ⟨rfl, hk1⟩; refine halt ?_)
  have HK1 := Lib.hid hk1
  have hs1 := hk1.size
  clear hk1
  refine Halted.go ?_
  unfold lvV ordV
  go_wp2_with (refine wpList_store_blk rfl 53 _ _ rfl w1.heap.size (Ns .i64 lvL) rfl rfl _ (zer .i64 96) ((Blk.new w1 (zer .i64 96) _).alloc _) GV.out (by rw [zer_size, Ns_size, lvL_length]) (Ns_all _ _) ?_; refine halt ?_)
  have hbn := Blk.new (w1.alloc (.cells (zer .i64 96) 53 (0, 0))) (zer .i64 257) 54
  rw [World.size_alloc] at hbn
  have HBN := Lib.hid (hbn.setRow_ne (b' := w1.heap.size) (by omega) (Ns .i64 lvL))
  refine Halted.go (wpList_store_blk rfl 54 _ _ rfl (w1.heap.size + 1) (Ns .i64 orderL) rfl rfl _ (zer .i64 257) HBN.out GO.out (by rw [zer_size, Ns_size, orderL_length]) (Ns_all _ _) ?_)
  have HV := Lib.hid ((((Blk.new w1 (zer .i64 96) 53).alloc (.cells (zer .i64 257) 54 (0, 0))).setRow (Ns .i64 lvL)).setRow_ne (b' := w1.heap.size + 1) (by omega) (Ns .i64 orderL))
  have HO := Lib.hid (HBN.out.setRow (Ns .i64 orderL))
  have HK := Lib.hid (below_setRow (below_setRow (below_new (below_new HK1.out (.cells (zer .i64 96) 53 (0, 0))) (.cells (zer .i64 257) 54 (0, 0))) (show w.heap.size ≤ w1.heap.size by omega) (Ns .i64 lvL)) (show w.heap.size ≤ w1.heap.size + 1 by omega) (Ns .i64 orderL))
  have HB1 := Lib.hid (HB.out.below HK.out HAB.out)
  clear hbn HBN HK1 hzv hzo GV GO
  generalize ((((w1.alloc (.cells (zer .i64 96) 53 (0, 0))).alloc (.cells (zer .i64 257) 54 (0, 0))).setRow w1.heap.size (Ns .i64 lvL)).setRow (w1.heap.size + 1) (Ns .i64 orderL)) = w3 at *
  obtain ⟨v, hv⟩ : ∃ v, v = w1.heap.size := ⟨_, rfl⟩
  obtain ⟨o, ho⟩ : ∃ o, o = w1.heap.size + 1 := ⟨_, rfl⟩
  rw [← ho] at HO
  rw [← hv] at HV
  have hvo : w.heap.size ≤ v ∧ w.heap.size ≤ o ∧ v ≠ o := by omega
  rw [← ho, ← hv]
  have HVO := Lib.hid hvo
  clear hv ho hvo hs1
  clear w1
  go_wp2_with fail
  go_loopg [6, 7, 8, 9, 21] (8 * m) (fun k vo vnow vn vones vi wr => ∃ (i now n : Nat) (ones : Bool) (out : List UInt8) (a' : Option Addr) (cap' : Nat), k + i = 8 * m ∧ vi = .int .i64 i ∧ vnow = .int .i64 now ∧ vn = .int .i64 n ∧ vones = .bool ones ∧ vo = .slice a' out.length cap' ∧ st xs i = .run now n ones out ∧
    Bo w.heap.size wr a' out.length cap' out ∧ Blk wr v (Ns .i64 lvL) 53 ∧ Blk wr o (Ns .i64 orderL) 54 ∧ Below w.heap.size w wr ∧ (∀ b, a'.map (·.block) = some b → b ≠ v ∧ b ≠ o))
  case atStart => exact ⟨0, 0, 0, true, [], none, 0, rfl, rfl, rfl, rfl, rfl, rfl, rfl, Bo.nil _ _, HV.out, HO.out, HK.out, fun b h => by cases h⟩
  case round =>
    obtain ⟨i, now, n, ones, out, a2, c2, hi, rfl, rfl, rfl, rfl, rfl, hst, hbo, hbv, hbo2, hk, hn⟩ := hrel
    obtain ⟨hn30, hge, hnow, hol⟩ := st_inv xs i now n ones out hst
    have HI := Lib.hid hi
    have HST := Lib.hid hst
    have HBO := Lib.hid hbo
    have HBV := Lib.hid hbv
    have HBR := Lib.hid hbo2
    have HKR := Lib.hid hk
    have HN := Lib.hid hn
    have HGE := Lib.hid hge
    clear hi hst hbo hbv hbo2 hk hn hge
    have hp30 : 2 ^ n ≤ 2 ^ 29 := Nat.pow_le_pow_right (by omega) (by omega)
    have hnb : now < 536870912 := Nat.lt_of_lt_of_le hnow hp30
    have HNOW := Lib.hid hnow
    clear hp30 hnow
    by_cases hlt : i < 8 * m
    · have hi8 : i / 8 < xs.length := by have := HLEN.out; omega
      obtain ⟨ab, ao, rfl, hab, hcell⟩ := (HB.out.below HKR.out HAB.out).get (by have := HLEN.out; omega)
      have d1 := hcell (i / 8) hi8
      clear hcell
      obtain ⟨x, hx⟩ : ∃ x : Nat, x = (xs[i / 8]'hi8).toNat := ⟨_, rfl⟩
      have hx256 : x < 256 := by rw [hx]; exact (xs[i / 8]'hi8).toNat_lt
      rw [← hx] at d1
      have hr8 : i % 8 < 8 := Nat.mod_lt _ (by omega)
      have hbt := bitAt_lt xs i
      have hbe : bitAt xs i = x / 2 ^ (7 - i % 8) % 2 := by
        unfold bitAt
        rw [hx]
        simp [List.getD, hi8]
      have hab1 := and_bit (7 - i % 8) hx256
      rw [← hbe] at hab1
      have hor1 := or_bit (now := now) (bt := bitAt xs i) (by omega) hbt
      have hfs := fst_succ n (by omega)
      have hst1 : st xs (i + 1) = (St.run now n ones out).step (bitAt xs i) := by rw [← HST.out]; rfl
      simp only [St.step] at hst1
      have HX := Lib.hid hx
      clear hx hbe
      generalize bitAt xs i = bt at *
      have hXge : fstN (n + 1) ≤ 2 * now + bt := by have := HGE.out; omega
      have hX32 : 2 * now + bt < 1073741824 := by omega
      have HS1 := Lib.hid hst1
      clear hst1 hfs
      generalize 2 * now + bt = X at *
      have hlv := lvL_get (n + 1) (by omega)
      have f1 : wr.cell? ⟨v, (n + 1) * 3, none⟩ = some (.int .i64 ((fstN (n + 1) : Nat) : Int)) := by
        rw [HBV.out.cell, Ns_get _ _ _ (by rw [lvL_length]; omega), hlv.1]
      have f2 : wr.cell? ⟨v, (n + 1) * 3 + 1, none⟩ = some (.int .i64 ((cntN (n + 1) : Nat) : Int)) := by
        rw [HBV.out.cell, Ns_get _ _ _ (by rw [lvL_length]; omega), hlv.2.1]
      have f3 : wr.cell? ⟨v, (n + 1) * 3 + 2, none⟩ = some (.int .i64 ((atN (n + 1) : Nat) : Int)) := by
        rw [HBV.out.cell, Ns_get _ _ _ (by rw [lvL_length]; omega), hlv.2.2.1]
      clear hlv
      have hbt0 : (0 : Int) ≤ (bt : Int) := by omega
      have hbt2 : (bt : Int) < 2 := by omega
      have hi0 : (0 : Int) ≤ (i : Int) := by omega
      obtain ⟨g, rfl⟩ : ∃ g, gk = g + 1 := ⟨gk - 1, by have := HI.out; omega⟩
      by_cases hnone : fstN (n + 1) + cntN (n + 1) ≤ X
      · have hsg : sgn X (n + 1) = none := by unfold sgn; rw [if_neg (by omega)]
        have HS2 := HS1.out
        rw [hsg] at HS2
        simp only at HS2
        have HS3 := Lib.hid HS2
        clear HS2 HS1 hsg
        generalize fstN (n + 1) = f at *
        generalize cntN (n + 1) = c at *
        generalize atN (n + 1) = at' at *
        have hfc : (c : Int) ≤ (X : Int) - (f : Int) := by omega
        have hX1 : (X : Int) - (f : Int) < 1073741824 := by omega
        clear hX32 hnone hXge
        have HBO1 := Lib.hid (HBO.out.keep (S := fun _ => False) ((Keeps.refl _ wr).alloc (.cells #[.int .i64 (f : Int), .int .i64 (c : Int), .int .i64 (at' : Int)] 52 (0, 0))) (fun _ _ h => h))
        have HBV1 := Lib.hid (HBV.out.alloc (.cells #[.int .i64 (f : Int), .int .i64 (c : Int), .int .i64 (at' : Int)] 52 (0, 0)))
        have HBR1 := Lib.hid (HBR.out.alloc (.cells #[.int .i64 (f : Int), .int .i64 (c : Int), .int .i64 (at' : Int)] 52 (0, 0)))
        have HKR1 := Lib.hid (below_new HKR.out (.cells #[.int .i64 (f : Int), .int .i64 (c : Int), .int .i64 (at' : Int)] 52 (0, 0)))
        clear HV HO HB1 HK HX HGE HNOW HST
        cases ones
        · go_wp2_with (go_roundg g; (case measure => omega); (case rel => exact ⟨i + 1, X, n + 1, _, out, a2, c2, by have := HI.out; omega, by go_num, rfl, by go_num, rfl, rfl, HS3.out, HBO1.out, HBV1.out, HBR1.out, HKR1.out, HN.out⟩))
        · go_wp2_with (go_roundg g; (case measure => omega); (case rel => exact ⟨i + 1, X, n + 1, _, out, a2, c2, by have := HI.out; omega, by go_num, rfl, by go_num, by rw [ones_eq], rfl, HS3.out, HBO1.out, HBV1.out, HBR1.out, HKR1.out, HN.out⟩))
      · obtain ⟨sg, hsgd⟩ : ∃ sg, sg = ordN (atN (n + 1) + (X - fstN (n + 1))) := ⟨_, rfl⟩
        have hsg : sgn X (n + 1) = some sg := by unfold sgn; rw [if_pos (by omega), hsgd]
        have hp257 := (ord_ok (n + 1) (by omega) (X - fstN (n + 1)) (by omega)).2.2.2
        have hcn := (cnt_le (n + 1) (by omega)).2.1
        have hsg257 := ((sgn_spec (by omega)).1 hsg).1
        have HS2 := HS1.out
        rw [hsg] at HS2
        simp only at HS2
        have HS3 := Lib.hid HS2
        have g1 : wr.cell? ⟨o, atN (n + 1) + (X - fstN (n + 1)), none⟩ = some (.int .i64 (sg : Int)) := by
          rw [HBR.out.cell, Ns_get _ _ _ (by rw [orderL_length]; exact hp257), hsgd]; rfl
        have hpe : (atN (n + 1) : Int) + (X : Int) - (fstN (n + 1) : Int) = ((atN (n + 1) + (X - fstN (n + 1)) : Nat) : Int) := by omega
        have haN : atN (n + 1) ≤ 257 := (lvL_get (n + 1) (by omega)).2.2.2
        clear HS2 HS1 hsg hsgd
        generalize hpp : atN (n + 1) + (X - fstN (n + 1)) = p at *
        clear hpp
        generalize fstN (n + 1) = f at *
        generalize cntN (n + 1) = c at *
        generalize atN (n + 1) = at' at *
        have hfc : (X : Int) - (f : Int) < (c : Int) := by omega
        have hfc0 : (0 : Int) ≤ (X : Int) - (f : Int) := by omega
        have hcc : (c : Int) ≤ 257 := by omega
        have hax0 : (0 : Int) ≤ (at' : Int) + (X : Int) := by omega
        have hax1 : (at' : Int) + (X : Int) ≤ 9223372036854775807 := by omega
        have hp0 : (0 : Int) ≤ (p : Int) := by omega
        have hp1 : (p : Int) < 257 := by omega
        have HBO1 := Lib.hid (HBO.out.keep (S := fun _ => False) ((Keeps.refl _ wr).alloc (.cells #[.int .i64 (f : Int), .int .i64 (c : Int), .int .i64 (at' : Int)] 52 (0, 0))) (fun _ _ h => h))
        have HBV1 := Lib.hid (HBV.out.alloc (.cells #[.int .i64 (f : Int), .int .i64 (c : Int), .int .i64 (at' : Int)] 52 (0, 0)))
        have HBR1 := Lib.hid (HBR.out.alloc (.cells #[.int .i64 (f : Int), .int .i64 (c : Int), .int .i64 (at' : Int)] 52 (0, 0)))
        have HKR1 := Lib.hid (below_new HKR.out (.cells #[.int .i64 (f : Int), .int .i64 (c : Int), .int .i64 (at' : Int)] 52 (0, 0)))
        have g2 : (wr.alloc (.cells #[.int .i64 (f : Int), .int .i64 (c : Int), .int .i64 (at' : Int)] 52 (0, 0))).cell? ⟨o, p, none⟩ = some (.int .i64 (sg : Int)) := by
          rw [HBR1.out.cell, ← HBR.out.cell, g1]
        clear HV HO HB1 HK HX HGE HNOW HST hX32 hnone hXge haN hcn g1
        by_cases h256 : sg = 256
        · have hdec : decN xs = ([], 22) := by
            refine dec_huff (i := i + 1) ?_ (by have := HLEN.out; omega)
            rw [HS3.out, if_pos h256]
          have HD := Lib.hid hdec
          subst h256
          clear hdec HS3
          cases ones
          all_goals
            go_wp2_with (go_returns; refine halt ?_)
          all_goals
            refine Halted.go ?_
            rw [HD.out]
            exact ⟨⟨rfl, rfl⟩, HKR1.out⟩
        · have hsg256 : sg < 256 := by omega
          have hB := B_of hsg256
          have HBB := Lib.hid hB
          have hsgI : (sg : Int) < 256 := by omega
          have hsg0 : (0 : Int) ≤ (sg : Int) := by omega
          have hne : ((sg : Int) == 256) = false := by simp; omega
          by_cases hfull : out.length = 4096
          · have hdec : decN xs = ([], 23) := by
              refine dec_long (i := i + 1) ?_ (by have := HLEN.out; omega)
              rw [HS3.out, if_neg h256, if_pos hfull]
            have HD := Lib.hid hdec
            have hfl : ((out.length : Int) == 4096) = true := by simp; omega
            clear hdec HS3 h256 hB hol
            cases ones
            all_goals
              go_wp2_with (go_returns; refine halt ?_)
            all_goals
              refine Halted.go ?_
              rw [HD.out]
              exact ⟨⟨rfl, rfl⟩, HKR1.out⟩
          · have HS4 : Hid (st xs (i + 1) = .run 0 0 true (out ++ [UInt8.ofNat sg])) := by
              show _ = _
              rw [HS3.out, if_neg h256, if_neg hfull]
            have hfl : ((out.length : Int) == 4096) = false := by simp; omega
            clear HS3 h256 hB hfull
            cases ones
            all_goals
              go_wp2_with (at_builtin; refine halt ?_)
            all_goals
              refine Halted.go (wpList_push8 (wr.alloc (.cells #[.int .i64 (f : Int), .int .i64 (c : Int), .int .i64 (at' : Int)] 52 (0, 0))) rfl _ _ (UInt8.ofNat sg) _ HBB.out rfl w.heap.size a2 out.length c2 out rfl HBO1.out.bd (by rw [World.size_alloc]; rfl) (by omega) HKR1.out.size ?_)
              intro a4 c4 w6 ho6 hk6 hf6
              have HO6 := Lib.hid (show Bo w.heap.size w6 a4 (out ++ [UInt8.ofNat sg]).length c4 (out ++ [UInt8.ofNat sg]) by rw [List.length_append]; exact ho6)
              have HLO : Hid ((out ++ [UInt8.ofNat sg]).length = out.length + 1) := by show _ = _; rw [List.length_append]; rfl
              have HK6 := Lib.hid (Keeps.below HKR1.out hk6 HKR1.out.size (fun k h => h.1))
              have HV6 := Lib.hid (hk6.blk HBV1.out (fun h => (HN.out _ h.2).1 rfl))
              have HR6 := Lib.hid (hk6.blk HBR1.out (fun h => (HN.out _ h.2).2 rfl))
              have HN6 : Hid (∀ b, a4.map (·.block) = some b → b ≠ v ∧ b ≠ o) := by
                intro b hb
                rcases hf6 b hb with h | h
                · rw [h] at hb; exact HN.out b hb
                · have h1 := HBV1.out.lt
                  have h2 := HBR1.out.lt
                  omega
              clear ho6 hk6 hf6
              generalize out ++ [UInt8.ofNat sg] = out2 at *
              go_wp2_with (go_roundg g; (case measure => omega); (case rel => exact ⟨i + 1, 0, 0, true, out2, a4, c4, by have := HI.out; omega, by go_num, rfl, rfl, rfl, by rw [HLO.out], HS4.out, HO6.out, HV6.out, HR6.out, HK6.out, HN6.out⟩))
    · obtain rfl : i = 8 * m := by have := HI.out; omega
      have hdec : decN xs = (St.run now n ones out).fin := by
        unfold decN
        rw [← HLEN.out, HST.out]
      have HD := Lib.hid hdec
      clear hdec HV HO HB1 HK HGE HNOW HST HI hlt
      by_cases h8 : 8 ≤ n
      · have hd2 : decN xs = ([], 22) := by rw [HD.out]; simp only [St.fin]; rw [if_pos (Or.inl h8)]
        have HD2 := Lib.hid hd2
        have h8i : (8 : Int) ≤ (n : Int) := by omega
        clear hd2 HD
        go_wp2_with (go_returns; refine halt ?_)
        refine Halted.go ?_
        rw [HD2.out]
        exact ⟨⟨rfl, rfl⟩, HKR.out⟩
      · have h8i : (n : Int) < 8 := by omega
        cases ones
        · have hd2 : decN xs = ([], 22) := by rw [HD.out]; simp [St.fin]
          have HD2 := Lib.hid hd2
          clear hd2 HD
          go_wp2_with (go_returns; refine halt ?_)
          refine Halted.go ?_
          rw [HD2.out]
          exact ⟨⟨rfl, rfl⟩, HKR.out⟩
        · have hd2 : decN xs = (out, 0) := by rw [HD.out]; simp only [St.fin]; rw [if_neg (by simp; omega)]
          have HD2 := Lib.hid hd2
          clear hd2 HD
          go_wp2_with fail
          refine By.upon HBO.out.by ?_
          go_wp2_with (go_returns; refine halt ?_)
          refine Halted.go ?_
          rw [HD2.out]
          exact ⟨⟨rfl, rfl⟩, HKR.out⟩

end Go.Proofs.Yticdjfmebmblaaa
