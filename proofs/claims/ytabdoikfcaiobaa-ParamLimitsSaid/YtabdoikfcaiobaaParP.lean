/- A number as a parameter has it. -/
import Derived.Test.YtabdoikfcaiobaaParO
import Derived.Test.YtabdoikfcaiobaaParK
namespace Go.Proofs.Ytabdoikfcaiobaa
open Go.RowKit Go.Deep Go.Maps

/-- The first bytes of a slice. -/
theorem By.fst {w : World} {a : Option Addr} {n cap : Nat} {xs : List UInt8} (h : By w a n cap xs) {k : Nat} (hk : k ≤ n) : By w a k cap (xs.take k) := by
  have := h.mid 0 k (Nat.zero_le _) hk
  have e : offA a cap 0 = a := by
    unfold offA
    split
    · rfl
    · cases a with
      | none => rfl
      | some p => simp [Addr.add]
  rwa [e, Nat.sub_zero, Nat.sub_zero, List.drop_zero] at this

theorem paR_num (v : Int) (h0 : 0 ≤ v) (h1 : v ≤ 4611686018427387903) : paR [⟨v, none, 0, 0, []⟩] = varE v ++ [0] := by
  have hok : frOK ⟨v, none, 0, 0, []⟩ = true := by unfold frOK varsOK; simp [h1]
  have hp : paOK [⟨v, none, 0, 0, []⟩] = true := pa_all (by simp) (by simp [idL]) (by simp [frsOK, hok])
  rw [(pa_good hp).1]
  have e : varE 0 = [0] := by decide +kernel
  simp [frsE, frE, varsE, e]

set_option maxHeartbeats 800000 in
theorem num_any (v : Int) (w : World) (h0 : 0 ≤ v) (h1 : v ≤ 4611686018427387903) :
    Calls Try.prog 13 #[.int .u64 v] w fun e w' => ∃ a' n' cap', e = .returned (.slice a' n' cap') ∧ By w' a' n' cap' (varE v) ∧ (∀ b, a'.map (·.block) = some b → b < w'.heap.size) ∧ Below w.heap.size w w' := by
  have hfr := Hv.new w [⟨v, none, 0, 0, []⟩] 42 #[.int .u64 v, .slice none 0 0] rfl (by simp)
    (fun f hf => by
      simp only [List.mem_cons, List.not_mem_nil, or_false] at hf
      subst hf
      exact ⟨h0, by show v ≤ _; omega, By.nil w, fun b hb => by cases hb⟩)
  have HFR := Lib.hid hfr
  have HK0 := Lib.hid ((Below.refl w.heap.size w).alloc (Nat.le_refl _) (.cells #[.int .u64 v, .slice none 0 0] 42 (0, 0)))
  have HP := Lib.hid (paR_num v h0 h1)
  clear hfr
  go_enter Try.func13, Try.ntmps13
  go_wp2_with fail
  refine (pwrite_any _ 1 1 [⟨v, none, 0, 0, []⟩] _ HFR.out (fun f hf => by simp only [List.mem_cons, List.not_mem_nil, or_false] at hf; subst hf; show (0 : Nat) ≤ 1000000; omega)).mono ?_
  rintro e w1 ⟨a1, n1, c1, rfl, ho1, hk1⟩
  rw [HP.out] at ho1
  obtain ⟨m, hm⟩ : ∃ m, (varE v).length = m := ⟨_, rfl⟩
  have hn1 : n1 = m + 1 := by rw [ho1.1, List.length_append, hm]; rfl
  subst hn1
  have HO := Lib.hid ho1
  have HM := Lib.hid hm
  have HK1 := Lib.hid (HK0.out.trans (hk1.mono HK0.out.size))
  have hc1 := ho1.by.2.le
  have hm8 : m ≤ 8 := by
    have p1 := varLenV_pos h1
    have l1 := varE_length v (by omega)
    omega
  clear ho1 hk1 hm
  go_wp2_with fail
  go_returns
  exact ⟨a1, m, c1, rfl, by have := HO.out.by.fst (k := m) (by omega); rwa [List.take_left' HM.out] at this, fun b hb => (HO.out.ge b hb).2, HK1.out⟩

end Go.Proofs.Ytabdoikfcaiobaa
