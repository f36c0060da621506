/- The walk of BlockGreat. -/
import Derived.Test.YtcfljnlfikkhaaaBlkJ
namespace Go.Proofs.Ytcfljnlfikkhaaa
open Go.RowKit Go.Deep

set_option maxRecDepth 100000 in
set_option maxHeartbeats 3200000 in
theorem walkBlockGreat (w : World) (a0 : Int) (h0 : (Lit.int .u8 a0).wf = true) (a1 : Int) (h1 : (Lit.int .u8 a1).wf = true) (a2 : Int) (h2 : (Lit.int .u8 a2).wf = true) :
    Calls Try.prog 4 #[.int .u8 a0, .int .u8 a1, .int .u8 a2] w fun e w' => e = .returned (.bool true) ∧ Below w.heap.size w w' := by
  obtain ⟨n0, n1⟩ := wf_u8_iff h0
  obtain ⟨p0, p1⟩ := wf_u8_iff h1
  obtain ⟨m0, m1⟩ := wf_u8_iff h2
  clear h0 h1 h2
  obtain ⟨n, rfl⟩ : ∃ n : Nat, a0 = n := ⟨a0.toNat, by omega⟩
  obtain ⟨q, rfl⟩ : ∃ n : Nat, a1 = n := ⟨a1.toNat, by omega⟩
  obtain ⟨m, rfl⟩ : ∃ n : Nat, a2 = n := ⟨a2.toNat, by omega⟩
  obtain ⟨N, hN⟩ : ∃ N : Nat, (n : Int) + (m : Int) % 3 = N := ⟨n + m % 3, by omega⟩
  obtain ⟨p, hp⟩ : ∃ p : Nat, (q : Int) % 40 + 1 = p := ⟨q % 40 + 1, by omega⟩
  have HN := Lib.hid hN
  have hN1 : N ≤ 257 := by omega
  have hp1 : 1 ≤ p := by omega
  have hp2 : p ≤ 40 := by omega
  clear p0 p1
  go_enter Try.func4, Try.ntmps4
  go_wp2_with fail
  refine (known_any w).mono ?_
  rintro e w1 ⟨rfl, hk1⟩
  have HK1 := Lib.hid hk1
  clear hk1
  go_wp2_with (refine wpList_make8 _ rfl _ _ rfl N rfl rfl (by omega) ?_; intro w2 ho2 hk2; refine halt ?_)
  have HO2 := Lib.hid ho2
  have HK2 := Lib.hid (HK1.out.trans (hk2.mono HK1.out.size))
  clear ho2 hk2 hN
  refine Halted.go ?_
  go_wp2_with fail
  clear hp
  refine (split_any 1 false p _ N N (List.replicate N 0) w2 HO2.out.by (by omega) (by omega) (by omega)).mono ?_
  rintro e w3 ⟨a3, c3, l, rfl, hq3, hsp3, hl3, hm3, hn3, hk3⟩
  have HQ3 := Lib.hid hq3
  have HSP := Lib.hid hsp3
  have HL3 := Lib.hid hl3
  have HM3 := Lib.hid hm3
  have HN3 := Lib.hid hn3
  have HK3 := Lib.hid (HK2.out.trans (hk3.mono HK2.out.size))
  have HS3 := Lib.hid hk3.size
  clear hq3 hsp3 hl3 hm3 hn3 hk3
  go_wp2_with fail
  refine (new_any n w3 (by omega) (by omega)).mono ?_
  rintro e w4 ⟨rfl, hw4⟩
  rw [if_neg (by omega)] at hw4
  have HP4 : Hid (PkM (w3.heap.size + 1) w4 w3.heap.size (bk0 n)) := Lib.hid (by rw [hw4]; exact PkM.new w3 n _ rfl)
  have HK4 : Hid (Below w.heap.size w w4) := Lib.hid (by rw [hw4]; exact HK3.out.alloc HK3.out.size _)
  have HQ4 : Hid (Below w3.heap.size w3 w4) := Lib.hid (by rw [hw4]; exact (Below.refl _ _).alloc (Nat.le_refl _) _)
  have HS4 : Hid (w2.heap.size ≤ w3.heap.size ∧ w.heap.size ≤ w3.heap.size) := ⟨HS3.out, HK3.out.size⟩
  have HYL : Hid ((List.replicate N (0 : UInt8)).length = N) := by show _ = _; simp
  clear hw4
  go_wp2_with fail
  have hll : l.length ≤ 300 := by
    have h1 := HN3.out
    have h2 := HYL.out
    rcases h1 with h | h
    · omega
    · have h3 : l.length - 1 ≤ (l.length - 1) * p := Nat.le_mul_of_pos_right _ hp1
      omega
  go_loopg [9, 10] l.length (fun k vr vi wr => ∃ (i : Nat) (r : Int), vr = .int .i64 r ∧ vi = .int .i64 i ∧ k + i = l.length ∧ Below w3.heap.size w3 wr ∧ Below w.heap.size w wr ∧ ((r = 0 ∧ PkM (w3.heap.size + 1) wr w3.heap.size (spS n 1 false p (List.replicate N 0) i) ∧ (i = 0 ∨ (((List.replicate N (0 : UInt8)).take (i * p)).length : Int) ≤ n)) ∨ (r = 3 ∧ n < N)))
  case atStart => exact ⟨0, 0, rfl, rfl, by omega, HQ4.out, HK4.out, .inl ⟨rfl, HP4.out, .inl rfl⟩⟩
  case round =>
    obtain ⟨i, r, rfl, rfl, hk, hq, hkw, hor⟩ := hrel
    have HI := Lib.hid hk
    have HB := Lib.hid hq
    have HQ := Lib.hid (HQ3.out.keep (Below.keeps hq) (fun b h => .inr h))
    have HKW := Lib.hid hkw
    clear hk hq hkw HQ4 HK4 HP4
    rcases hor with ⟨rfl, hp, hle⟩ | ⟨rfl, hgt⟩
    · have HP := Lib.hid hp
      have HLE := Lib.hid hle
      clear hp hle
      by_cases hil : i < l.length
      · obtain ⟨bb, oo, rfl, hbb, ⟨c0, c1, c2, c3⟩, hy⟩ := HQ.out.get i hil
        have hsp := HSP.out i hil
        have hop := sp_opens HN3.out hil
        have hle2 := HLE.out
        have hfn : l[i].n ≤ 1000000 := by
          have h1 := hy.1
          have h2 := hsp.2.2.2
          have h3 : (spX p (List.replicate N 0) i).length ≤ p := by unfold spX; rw [List.length_take]; omega
          rw [← h2] at h3
          omega
        have hsok : (spS (n : Int) 1 false p (List.replicate N 0) i).Ok := spS_ok (by omega) (by omega) (by decide) (by decide) hle2
        have HSTEP : Hid ((((List.replicate N (0 : UInt8)).take ((i + 1) * p)).length : Int) ≤ n ∧ (spS (n : Int) 1 false p (List.replicate N 0) i).rule l[i].t l[i].fl l[i].st l[i].xs = 0 ∧ (spS (n : Int) 1 false p (List.replicate N 0) i).add l[i].t l[i].fl l[i].st l[i].xs = spS n 1 false p (List.replicate N 0) (i + 1) ∨
            n < N ∧ (spS (n : Int) 1 false p (List.replicate N 0) i).rule l[i].t l[i].fl l[i].st l[i].xs = 3) := by
          by_cases hb : (((List.replicate N (0 : UInt8)).take ((i + 1) * p)).length : Int) ≤ n
          · exact .inl ⟨hb, (sp_takes hsp (by decide) hop hb).1, (sp_takes hsp (by decide) hop hb).2.1⟩
          · exact .inr ⟨by simp at hb; omega, sp_refuses hsp (by decide) hop (by omega)⟩
        have HY := Lib.hid hy
        have HOK := Lib.hid hsok
        clear hsp hop hle2 hsok hy
        generalize l[i] = f at *
        go_wp2_with fail
        refine (add_any (w3.heap.size + 1) w3.heap.size _ f.t f.fl f.st f.a f.n f.cap f.xs wr HP.out HOK.out HY.out hfn).mono ?_
        rintro e w5 ⟨rfl, hp5, hk5⟩
        have HQ5 : Hid (Below w3.heap.size w3 w5) := Lib.hid (Keeps.below HB.out hk5 HB.out.size (fun k h => by omega))
        have HK5 : Hid (Below w.heap.size w w5) := Lib.hid (Keeps.below HKW.out hk5 HKW.out.size (fun k h => by have := HS4.out.2; omega))
        have HP5 := Lib.hid hp5
        clear hp5 hk5 c0 c1 c2 c3
        rcases HSTEP.out with ⟨hle5, hr5, ha5⟩ | ⟨hgt, hr5⟩
        · rw [hr5]
          rw [ha5] at HP5
          have HLE5 := Lib.hid hle5
          clear hle5 hr5 ha5
          obtain ⟨g, rfl⟩ : ∃ g, gk = g + 1 := ⟨gk - 1, by have := HI.out; omega⟩
          go_wp2_with fail
          go_roundg g
          case measure => omega
          case rel => exact ⟨i + 1, 0, rfl, by go_num, by have := HI.out; omega, HQ5.out, HK5.out, .inl ⟨rfl, HP5.out, .inr HLE5.out⟩⟩
        · rw [hr5]
          clear hr5
          obtain ⟨g, rfl⟩ : ∃ g, gk = g + 1 := ⟨gk - 1, by have := HI.out; omega⟩
          go_wp2_with fail
          go_roundg g
          case measure => omega
          case rel => exact ⟨i + 1, 3, rfl, by go_num, by have := HI.out; omega, HQ5.out, HK5.out, .inr ⟨rfl, hgt⟩⟩
      · have hm3 : ((m : Int) % 3 == 0) = true := by
          have h1 := HLE.out
          have h2 := HM3.out
          have h3 := HL3.out
          have h4 := HI.out
          have h5 : i = l.length := by omega
          have h6 := HN.out
          rw [HYL.out] at h2
          rw [h5, List.length_take, HYL.out, Nat.min_eq_right h2] at h1
          have : (m : Int) % 3 = 0 := by omega
          simp [this]
        go_wp2_with fail
        go_returns
        exact ⟨rfl, HKW.out⟩
    · have hm3 : ((m : Int) % 3 == 0) = false := by
        have h6 := HN.out
        have : ¬ (m : Int) % 3 = 0 := by omega
        simpa using this
      by_cases hil : i < l.length
      · go_wp2_with fail
        go_returns
        exact ⟨rfl, HKW.out⟩
      · go_wp2_with fail
        go_returns
        exact ⟨rfl, HKW.out⟩

end Go.Proofs.Ytcfljnlfikkhaaa
