/- The walk of NumFar. -/
import Derived.Test.YtffffgpahdkngaaNumI
namespace Go.Proofs.Ytffffgpahdkngaa
open Go.RowKit Go.Deep

/-- A row of one byte that has just been made. -/
theorem Bo.one (w : World) (c : UInt8) (v : Value) (hv : v = B c) : Bo w.heap.size (w.alloc (.cells #[v] 5 (0, 0))) (some ⟨w.heap.size, 0, none⟩) 1 1 [c] := by
  subst hv
  exact ⟨rfl, rfl, .inr ⟨w.heap.size, 1, #[B c], rfl, Nat.le_refl _, heap_alloc_new w _, Nat.le_refl _, by unfold maxLen; omega, rfl, rfl⟩⟩

theorem far_first (b : Int) (hb0 : 0 ≤ b) : preN (b % 8 + 1) = (b % 8 + 1).toNat ∧ Value.int .u8 (((2 : Int) ^ (b % 8 + 1).toNat - 1) % 256) = B (byt (preM (b % 8 + 1))) ∧ ((byt (preM (b % 8 + 1))).toNat : Int) % 2 ^ preN (b % 8 + 1) = preM (b % 8 + 1) := by
  have h1 : preN (b % 8 + 1) = (b % 8 + 1).toNat := by unfold preN atl1; rw [if_neg (by omega), if_neg (by omega)]
  have hm := preM_bd (b % 8 + 1)
  refine ⟨h1, ?_, ?_⟩
  · rw [← h1]; exact B_byt (preM (b % 8 + 1))
  · rw [byt_val, Int.emod_eq_of_lt (a := preM (b % 8 + 1)) (b := 256) (by omega) (by omega)]
    exact Int.emod_eq_of_lt (by omega) (by unfold preM; omega)

set_option maxHeartbeats 1600000 in
theorem walkNumFar (w : World) (b : Int) (w0 : (Lit.int .u8 b).wf = true) (z : Int) (w1 : (Lit.int .u8 z).wf = true) (l : Int) (w2 : (Lit.int .u8 l).wf = true) (v3 : Value) (h3 : Arg Try.prog w 22 v3) :
    Calls Try.prog 6 #[.int .u8 b, .int .u8 z, .int .u8 l, v3] w fun e w' => e = .returned (.bool true) ∧ Below w.heap.size w w' := by
  obtain ⟨a5, m5, cap5, ys, rfl, hby5, hkeep5⟩ := h3.bytes
  obtain ⟨hb0, hb1⟩ := wf_u8_iff w0
  obtain ⟨hz0, hz1⟩ := wf_u8_iff w1
  obtain ⟨hl0, hl1⟩ := wf_u8_iff w2
  have HKEEP5 := Lib.hid hkeep5
  have HFF := Lib.hid (far_first b hb0)
  have HL : Hid (Value.int .u8 (bits .and .u8 l 127) = B (byt (l % 128))) := by
    show _ = _
    rw [and8 7 hl0 (by omega) (by omega) (by simp), ← B_byt, show ((2 : Int) ^ 7) = 128 by simp]
    congr 1
    omega
  clear w0 w1 w2 hby5 hkeep5 h3
  go_enter Try.func6, Try.ntmps6
  go_wp2_with fail
  refine (known_any w).mono ?_
  rintro e w1 ⟨rfl, hk1⟩
  have HK := Lib.hid hk1
  clear hk1
  by_cases h50 : 50 < m5
  · go_wp2_with fail
    go_returns
    exact ⟨rfl, HK.out⟩
  · go_wp2_with fail
    generalize hK : b % 8 + 1 = K at *
    generalize hc0 : byt (preM K) = c0 at *
    have h256 : ((2 : Int) ^ K.toNat % 256 - 1) % 256 = ((2 : Int) ^ K.toNat - 1) % 256 := by omega
    rw [h256]
    clear h256
    go_loopg [10, 11] (z % 14).toNat (fun k vo vi wr => ∃ (i : Nat) (a' : Option Addr) (c' : Nat), k + i = (z % 14).toNat ∧ vi = .int .i64 i ∧ vo = .slice a' (i + 1) c' ∧ Bo w1.heap.size wr a' (i + 1) c' (c0 :: List.replicate i 128) ∧ Below w.heap.size w wr)
    case atStart => exact ⟨0, some ⟨w1.heap.size, 0, none⟩, 1, by omega, rfl, rfl, Bo.one w1 c0 _ HFF.out.2.1, HK.out.alloc HK.out.size _⟩
    case round =>
      obtain ⟨i, a2, c2, hi, rfl, rfl, ho, hk⟩ := hrel
      have HO := Lib.hid ho
      have HK2 := Lib.hid hk
      have HI := Lib.hid hi
      have hi14 : i ≤ 13 := by omega
      have hsz : w1.heap.size ≤ wr.heap.size := by
        have := ho.ge
        rcases a2 with _ | a2
        · have := ho.2.2
          rcases this with ⟨h, _⟩ | ⟨g, _, _, h, _⟩ <;> cases h
        · have := this _ rfl
          omega
      clear ho hk hi
      by_cases hiz : (i : Int) < z % 14
      · obtain ⟨g, rfl⟩ : ∃ g, gk = g + 1 := ⟨gk - 1, by have := HI.out; omega⟩
        go_wp2_with (at_builtin; refine halt ?_)
        refine Halted.go (wpList_push8 wr rfl _ _ 128 _ rfl rfl w1.heap.size a2 _ c2 _ rfl HO.out.bd rfl (by omega) hsz ?_)
        intro a3 c3 w3 ho3 hk3 hn3
        have HO3 := Lib.hid ho3
        have HK3 := Lib.hid (Keeps.mine_below HK2.out hk3 HK2.out.size HK.out.size)
        clear ho3 hk3 hn3
        go_wp2_with fail
        go_roundg g
        case measure => omega
        case rel =>
          refine ⟨i + 1, a3, c3, by have := HI.out; omega, by go_num, rfl, ?_, HK3.out⟩
          have := HO3.out
          rw [List.replicate_succ']
          exact this
      · go_wp2_with (at_builtin; refine halt ?_)
        refine Halted.go (wpList_push8 wr rfl _ _ _ _ HL.out rfl w1.heap.size a2 _ c2 _ rfl HO.out.bd rfl (by omega) hsz ?_)
        intro a3 c3 w3 ho3 hk3 hn3
        have HO3 := Lib.hid ho3
        have HK3 := Lib.hid (Keeps.mine_below HK2.out hk3 HK2.out.size HK.out.size)
        have hsz3 : w1.heap.size ≤ w3.heap.size := Nat.le_trans hsz hk3.size
        have HB5 := Lib.hid (HKEEP5.out w3 HK3.out)
        have HY := Lib.hid HB5.out.1
        clear ho3 hk3 hn3
        go_wp2_with (at_builtin; refine halt ?_)
        refine Halted.go (wpList_app8 w3 rfl _ _ 22 rfl w1.heap.size a3 _ c3 _ rfl HO3.out.bd (.slice a5 m5 cap5) rfl ys (by have h := HB5.out.2.src Try.underlying22 (Bs_one ys); rw [HY.out] at h ⊢; exact h) (by have := HY.out; omega) hsz3 ?_)
        intro a4 c4 w4 ho4 hk4 hn4 _ _
        have e : c0 :: List.replicate i 128 ++ [byt (l % 128)] ++ ys = c0 :: (List.replicate i 128 ++ ([byt (l % 128)] ++ ys)) := by simp
        have hz : 10 ≤ i → rpR (c0 :: List.replicate i 128 ++ [byt (l % 128)] ++ ys) K = (0, 0, 21) := by
          intro h
          rw [e]
          exact rpR_zeros c0 K HFF.out.2.2 i ([byt (l % 128)] ++ ys) h
        clear e
        generalize c0 :: List.replicate i 128 ++ [byt (l % 128)] ++ ys = X at ho4 hz
        have HZ := Lib.hid hz
        have HO4 := Lib.hid ho4
        have HK4 := Lib.hid (Keeps.mine_below HK3.out hk4 HK3.out.size HK.out.size)
        clear ho4 hk4 hn4 hz
        go_wp2_with fail
        refine (readprefix_any a4 _ c4 X K w4 HO4.out.by).mono ?_
        rintro e w' ⟨rfl, rfl⟩
        go_wp2_with fail
        refine (readprefixr_any a4 _ c4 X K w4 HO4.out.by).mono ?_
        rintro e w' ⟨rfl, rfl⟩
        by_cases h10 : z % 14 < 10
        · have hle := rpR_le X K
          go_wp2_with fail
          go_returns
          exact ⟨by simp [hle], HK4.out⟩
        · rw [HZ.out (by omega)]
          go_wp2_with fail
          go_returns
          exact ⟨by simp, HK4.out⟩

end Go.Proofs.Ytffffgpahdkngaa
