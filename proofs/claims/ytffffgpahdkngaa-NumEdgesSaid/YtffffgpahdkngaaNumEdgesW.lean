/- The walk of NumEdges. -/
import Derived.Test.YtffffgpahdkngaaNumI
namespace Go.Proofs.Ytffffgpahdkngaa
open Go.RowKit Go.Deep

theorem edge_sum (T d : Int) (hT : 64 ≤ T) (hT1 : T ≤ 4611686018427387904) (hd0 : -3 < d) (hd1 : d < 3) : IntKind.u64.wrap (T + IntKind.u64.wrap d) = T + d := by
  rw [IntKind.wrap_u64, IntKind.wrap_u64]
  omega

theorem edge_vars (x : Int) (n e : Nat) (h : varLenV x = n) (he : e = if n = 0 then 21 else 0) : (varsR [] [x]).length = n ∧ varsErr [x] = e := by
  obtain ⟨h1, h2⟩ := vars_one x
  rw [h] at h1 h2
  subst he
  refine ⟨by omega, ?_⟩
  rw [h2]
  by_cases hn : n = 0
  · subst hn; rfl
  · rw [if_neg (by omega), if_neg hn]; rfl

theorem Uv.one2 (w : World) (o : Obj) (t : TypeId) (v : Int) (h0 : 0 ≤ v) (h1 : v ≤ 18446744073709551615) : Uv ((w.alloc o).alloc (.cells #[.int .u64 v] t (0, 0))) (some ⟨w.heap.size + 1, 0, none⟩) 1 1 [v] := by
  have := Uv.one (w.alloc o) t v h0 h1
  rwa [World.size_alloc] at this

set_option maxHeartbeats 1600000 in
theorem walkNumEdges (w : World) (k : Int) (w0 : (Lit.int .u8 k).wf = true) (l : Int) (w1 : (Lit.int .i8 l).wf = true) :
    Calls Try.prog 5 #[.int .u8 k, .int .i8 l] w fun e w' => e = .returned (.bool true) ∧ Below w.heap.size w w' := by
  obtain ⟨hk0, hk1⟩ := wf_u8_iff w0
  obtain ⟨hl0, hl1⟩ := wf_i8_iff w1
  clear w0 w1
  have hq : k % 4 = 0 ∨ k % 4 = 1 ∨ k % 4 = 2 ∨ k % 4 = 3 := by omega
  have hd := tmod_bd l 3 (by omega)
  have hd0 := hd.1
  have hd1 := hd.2
  clear hd
  rcases hq with hq | hq | hq | hq
  · by_cases hneg : l.tmod 3 < 0
    · have HX := Lib.hid (edge_sum 64 (l.tmod 3) (by omega) (by omega) hd0 hd1)
      have hlen : varLenV (64 + l.tmod 3) = 1 := by rcases varLenV_cases (64 + l.tmod 3) with h | h | h | h | h <;> omega
      have HL := Lib.hid hlen
      have HE := Lib.hid (edge_vars (64 + l.tmod 3) 1 0 hlen (by simp))
      have hx0 : 0 ≤ 64 + l.tmod 3 := by omega
      have hx1 : 64 + l.tmod 3 ≤ 18446744073709551615 := by omega
      clear hlen
      go_enter Try.func5, Try.ntmps5
      go_wp2_with fail
      refine (known_any w).mono ?_
      rintro e w1 ⟨rfl, hk1⟩
      have HK := Lib.hid hk1
      clear hk1
      go_wp2_with fail
      try rw [HX.out]
      refine (varlen_any (64 + l.tmod 3) _ hx0).mono ?_
      rintro e w' ⟨rfl, rfl⟩
      rw [HL.out]
      go_wp2_with fail
      refine (var_any none 0 0 [] _ 1 1 [64 + l.tmod 3] _ (By.nil _) (Uv.one2 w1 _ _ _ hx0 hx1) (by omega) (by omega)).mono ?_
      rintro e w2 ⟨a2, n2, c2, rfl, ho2, hk2⟩
      obtain rfl : n2 = 1 := by have h1 := ho2.1; rw [HE.out.1] at h1; exact h1
      have HK2 := Lib.hid ((HK.out.alloc HK.out.size _).trans ((Below.fresh _ hk2).mono (by have := HK.out.size; simp; omega)))
      clear ho2 hk2
      rw [HE.out.2]
      go_wp2_with fail
      have hsz := HK2.out.size
      go_returns
      exact ⟨by simp, by first | exact HK2.out.alloc hsz _ | exact (HK2.out.alloc hsz _).alloc (by simp; omega) _⟩
    · have HX := Lib.hid (edge_sum 64 (l.tmod 3) (by omega) (by omega) hd0 hd1)
      have hlen : varLenV (64 + l.tmod 3) = 2 := by rcases varLenV_cases (64 + l.tmod 3) with h | h | h | h | h <;> omega
      have HL := Lib.hid hlen
      have HE := Lib.hid (edge_vars (64 + l.tmod 3) 2 0 hlen (by simp))
      have hx0 : 0 ≤ 64 + l.tmod 3 := by omega
      have hx1 : 64 + l.tmod 3 ≤ 18446744073709551615 := by omega
      clear hlen
      go_enter Try.func5, Try.ntmps5
      go_wp2_with fail
      refine (known_any w).mono ?_
      rintro e w1 ⟨rfl, hk1⟩
      have HK := Lib.hid hk1
      clear hk1
      go_wp2_with fail
      try rw [HX.out]
      refine (varlen_any (64 + l.tmod 3) _ hx0).mono ?_
      rintro e w' ⟨rfl, rfl⟩
      rw [HL.out]
      go_wp2_with fail
      refine (var_any none 0 0 [] _ 1 1 [64 + l.tmod 3] _ (By.nil _) (Uv.one2 w1 _ _ _ hx0 hx1) (by omega) (by omega)).mono ?_
      rintro e w2 ⟨a2, n2, c2, rfl, ho2, hk2⟩
      obtain rfl : n2 = 2 := by have h1 := ho2.1; rw [HE.out.1] at h1; exact h1
      have HK2 := Lib.hid ((HK.out.alloc HK.out.size _).trans ((Below.fresh _ hk2).mono (by have := HK.out.size; simp; omega)))
      clear ho2 hk2
      rw [HE.out.2]
      go_wp2_with fail
      have hsz := HK2.out.size
      go_returns
      exact ⟨by simp, by first | exact HK2.out.alloc hsz _ | exact (HK2.out.alloc hsz _).alloc (by simp; omega) _⟩
  · by_cases hneg : l.tmod 3 < 0
    · have HX := Lib.hid (edge_sum 16384 (l.tmod 3) (by omega) (by omega) hd0 hd1)
      have hlen : varLenV (16384 + l.tmod 3) = 2 := by rcases varLenV_cases (16384 + l.tmod 3) with h | h | h | h | h <;> omega
      have HL := Lib.hid hlen
      have HE := Lib.hid (edge_vars (16384 + l.tmod 3) 2 0 hlen (by simp))
      have hx0 : 0 ≤ 16384 + l.tmod 3 := by omega
      have hx1 : 16384 + l.tmod 3 ≤ 18446744073709551615 := by omega
      clear hlen
      go_enter Try.func5, Try.ntmps5
      go_wp2_with fail
      refine (known_any w).mono ?_
      rintro e w1 ⟨rfl, hk1⟩
      have HK := Lib.hid hk1
      clear hk1
      go_wp2_with fail
      try rw [HX.out]
      refine (varlen_any (16384 + l.tmod 3) _ hx0).mono ?_
      rintro e w' ⟨rfl, rfl⟩
      rw [HL.out]
      go_wp2_with fail
      refine (var_any none 0 0 [] _ 1 1 [16384 + l.tmod 3] _ (By.nil _) (Uv.one2 w1 _ _ _ hx0 hx1) (by omega) (by omega)).mono ?_
      rintro e w2 ⟨a2, n2, c2, rfl, ho2, hk2⟩
      obtain rfl : n2 = 2 := by have h1 := ho2.1; rw [HE.out.1] at h1; exact h1
      have HK2 := Lib.hid ((HK.out.alloc HK.out.size _).trans ((Below.fresh _ hk2).mono (by have := HK.out.size; simp; omega)))
      clear ho2 hk2
      rw [HE.out.2]
      go_wp2_with fail
      have hsz := HK2.out.size
      go_returns
      exact ⟨by simp, by first | exact HK2.out.alloc hsz _ | exact (HK2.out.alloc hsz _).alloc (by simp; omega) _⟩
    · have HX := Lib.hid (edge_sum 16384 (l.tmod 3) (by omega) (by omega) hd0 hd1)
      have hlen : varLenV (16384 + l.tmod 3) = 4 := by rcases varLenV_cases (16384 + l.tmod 3) with h | h | h | h | h <;> omega
      have HL := Lib.hid hlen
      have HE := Lib.hid (edge_vars (16384 + l.tmod 3) 4 0 hlen (by simp))
      have hx0 : 0 ≤ 16384 + l.tmod 3 := by omega
      have hx1 : 16384 + l.tmod 3 ≤ 18446744073709551615 := by omega
      clear hlen
      go_enter Try.func5, Try.ntmps5
      go_wp2_with fail
      refine (known_any w).mono ?_
      rintro e w1 ⟨rfl, hk1⟩
      have HK := Lib.hid hk1
      clear hk1
      go_wp2_with fail
      try rw [HX.out]
      refine (varlen_any (16384 + l.tmod 3) _ hx0).mono ?_
      rintro e w' ⟨rfl, rfl⟩
      rw [HL.out]
      go_wp2_with fail
      refine (var_any none 0 0 [] _ 1 1 [16384 + l.tmod 3] _ (By.nil _) (Uv.one2 w1 _ _ _ hx0 hx1) (by omega) (by omega)).mono ?_
      rintro e w2 ⟨a2, n2, c2, rfl, ho2, hk2⟩
      obtain rfl : n2 = 4 := by have h1 := ho2.1; rw [HE.out.1] at h1; exact h1
      have HK2 := Lib.hid ((HK.out.alloc HK.out.size _).trans ((Below.fresh _ hk2).mono (by have := HK.out.size; simp; omega)))
      clear ho2 hk2
      rw [HE.out.2]
      go_wp2_with fail
      have hsz := HK2.out.size
      go_returns
      exact ⟨by simp, by first | exact HK2.out.alloc hsz _ | exact (HK2.out.alloc hsz _).alloc (by simp; omega) _⟩
  · by_cases hneg : l.tmod 3 < 0
    · have HX := Lib.hid (edge_sum 1073741824 (l.tmod 3) (by omega) (by omega) hd0 hd1)
      have hlen : varLenV (1073741824 + l.tmod 3) = 4 := by rcases varLenV_cases (1073741824 + l.tmod 3) with h | h | h | h | h <;> omega
      have HL := Lib.hid hlen
      have HE := Lib.hid (edge_vars (1073741824 + l.tmod 3) 4 0 hlen (by simp))
      have hx0 : 0 ≤ 1073741824 + l.tmod 3 := by omega
      have hx1 : 1073741824 + l.tmod 3 ≤ 18446744073709551615 := by omega
      clear hlen
      go_enter Try.func5, Try.ntmps5
      go_wp2_with fail
      refine (known_any w).mono ?_
      rintro e w1 ⟨rfl, hk1⟩
      have HK := Lib.hid hk1
      clear hk1
      go_wp2_with fail
      try rw [HX.out]
      refine (varlen_any (1073741824 + l.tmod 3) _ hx0).mono ?_
      rintro e w' ⟨rfl, rfl⟩
      rw [HL.out]
      go_wp2_with fail
      refine (var_any none 0 0 [] _ 1 1 [1073741824 + l.tmod 3] _ (By.nil _) (Uv.one2 w1 _ _ _ hx0 hx1) (by omega) (by omega)).mono ?_
      rintro e w2 ⟨a2, n2, c2, rfl, ho2, hk2⟩
      obtain rfl : n2 = 4 := by have h1 := ho2.1; rw [HE.out.1] at h1; exact h1
      have HK2 := Lib.hid ((HK.out.alloc HK.out.size _).trans ((Below.fresh _ hk2).mono (by have := HK.out.size; simp; omega)))
      clear ho2 hk2
      rw [HE.out.2]
      go_wp2_with fail
      have hsz := HK2.out.size
      go_returns
      exact ⟨by simp, by first | exact HK2.out.alloc hsz _ | exact (HK2.out.alloc hsz _).alloc (by simp; omega) _⟩
    · have HX := Lib.hid (edge_sum 1073741824 (l.tmod 3) (by omega) (by omega) hd0 hd1)
      have hlen : varLenV (1073741824 + l.tmod 3) = 8 := by rcases varLenV_cases (1073741824 + l.tmod 3) with h | h | h | h | h <;> omega
      have HL := Lib.hid hlen
      have HE := Lib.hid (edge_vars (1073741824 + l.tmod 3) 8 0 hlen (by simp))
      have hx0 : 0 ≤ 1073741824 + l.tmod 3 := by omega
      have hx1 : 1073741824 + l.tmod 3 ≤ 18446744073709551615 := by omega
      clear hlen
      go_enter Try.func5, Try.ntmps5
      go_wp2_with fail
      refine (known_any w).mono ?_
      rintro e w1 ⟨rfl, hk1⟩
      have HK := Lib.hid hk1
      clear hk1
      go_wp2_with fail
      try rw [HX.out]
      refine (varlen_any (1073741824 + l.tmod 3) _ hx0).mono ?_
      rintro e w' ⟨rfl, rfl⟩
      rw [HL.out]
      go_wp2_with fail
      refine (var_any none 0 0 [] _ 1 1 [1073741824 + l.tmod 3] _ (By.nil _) (Uv.one2 w1 _ _ _ hx0 hx1) (by omega) (by omega)).mono ?_
      rintro e w2 ⟨a2, n2, c2, rfl, ho2, hk2⟩
      obtain rfl : n2 = 8 := by have h1 := ho2.1; rw [HE.out.1] at h1; exact h1
      have HK2 := Lib.hid ((HK.out.alloc HK.out.size _).trans ((Below.fresh _ hk2).mono (by have := HK.out.size; simp; omega)))
      clear ho2 hk2
      rw [HE.out.2]
      go_wp2_with fail
      have hsz := HK2.out.size
      go_returns
      exact ⟨by simp, by first | exact HK2.out.alloc hsz _ | exact (HK2.out.alloc hsz _).alloc (by simp; omega) _⟩
  · by_cases hneg : l.tmod 3 < 0
    · have HX := Lib.hid (edge_sum 4611686018427387904 (l.tmod 3) (by omega) (by omega) hd0 hd1)
      have hlen : varLenV (4611686018427387904 + l.tmod 3) = 8 := by rcases varLenV_cases (4611686018427387904 + l.tmod 3) with h | h | h | h | h <;> omega
      have HL := Lib.hid hlen
      have HE := Lib.hid (edge_vars (4611686018427387904 + l.tmod 3) 8 0 hlen (by simp))
      have hx0 : 0 ≤ 4611686018427387904 + l.tmod 3 := by omega
      have hx1 : 4611686018427387904 + l.tmod 3 ≤ 18446744073709551615 := by omega
      clear hlen
      go_enter Try.func5, Try.ntmps5
      go_wp2_with fail
      refine (known_any w).mono ?_
      rintro e w1 ⟨rfl, hk1⟩
      have HK := Lib.hid hk1
      clear hk1
      go_wp2_with fail
      try rw [HX.out]
      refine (varlen_any (4611686018427387904 + l.tmod 3) _ hx0).mono ?_
      rintro e w' ⟨rfl, rfl⟩
      rw [HL.out]
      go_wp2_with fail
      refine (var_any none 0 0 [] _ 1 1 [4611686018427387904 + l.tmod 3] _ (By.nil _) (Uv.one2 w1 _ _ _ hx0 hx1) (by omega) (by omega)).mono ?_
      rintro e w2 ⟨a2, n2, c2, rfl, ho2, hk2⟩
      obtain rfl : n2 = 8 := by have h1 := ho2.1; rw [HE.out.1] at h1; exact h1
      have HK2 := Lib.hid ((HK.out.alloc HK.out.size _).trans ((Below.fresh _ hk2).mono (by have := HK.out.size; simp; omega)))
      clear ho2 hk2
      rw [HE.out.2]
      go_wp2_with fail
      have hsz := HK2.out.size
      go_returns
      exact ⟨by simp, by first | exact HK2.out.alloc hsz _ | exact (HK2.out.alloc hsz _).alloc (by simp; omega) _⟩
    · have HX := Lib.hid (edge_sum 4611686018427387904 (l.tmod 3) (by omega) (by omega) hd0 hd1)
      have hlen : varLenV (4611686018427387904 + l.tmod 3) = 0 := by rcases varLenV_cases (4611686018427387904 + l.tmod 3) with h | h | h | h | h <;> omega
      have HL := Lib.hid hlen
      have HE := Lib.hid (edge_vars (4611686018427387904 + l.tmod 3) 0 21 hlen (by simp))
      have hx0 : 0 ≤ 4611686018427387904 + l.tmod 3 := by omega
      have hx1 : 4611686018427387904 + l.tmod 3 ≤ 18446744073709551615 := by omega
      clear hlen
      go_enter Try.func5, Try.ntmps5
      go_wp2_with fail
      refine (known_any w).mono ?_
      rintro e w1 ⟨rfl, hk1⟩
      have HK := Lib.hid hk1
      clear hk1
      go_wp2_with fail
      try rw [HX.out]
      refine (varlen_any (4611686018427387904 + l.tmod 3) _ hx0).mono ?_
      rintro e w' ⟨rfl, rfl⟩
      rw [HL.out]
      go_wp2_with fail
      refine (var_any none 0 0 [] _ 1 1 [4611686018427387904 + l.tmod 3] _ (By.nil _) (Uv.one2 w1 _ _ _ hx0 hx1) (by omega) (by omega)).mono ?_
      rintro e w2 ⟨a2, n2, c2, rfl, ho2, hk2⟩
      obtain rfl : n2 = 0 := by have h1 := ho2.1; rw [HE.out.1] at h1; exact h1
      have HK2 := Lib.hid ((HK.out.alloc HK.out.size _).trans ((Below.fresh _ hk2).mono (by have := HK.out.size; simp; omega)))
      clear ho2 hk2
      rw [HE.out.2]
      go_wp2_with fail
      have hsz := HK2.out.size
      go_returns
      exact ⟨by simp, by first | exact HK2.out.alloc hsz _ | exact (HK2.out.alloc hsz _).alloc (by simp; omega) _⟩

end Go.Proofs.Ytffffgpahdkngaa
