/- The order of frames: what the program's functions answer. -/
import Derived.Test.YtaelhcoeejpglaaSeqB
import Derived.Deep.DeepMust
namespace Go.Proofs.Ytaelhcoeejpglaa
open Go.RowKit Go.Deep Go.Maps

theorem old_any (t : Int) (w : World) : Calls Try.prog 10 #[.int .u64 t] w fun e w' => e = .returned (.bool (oldB t)) ∧ w = w' := by
  go_enter Try.func10, Try.ntmps10
  go_wp2_with fail
  all_goals go_returns
  all_goals (refine ⟨?_, rfl⟩; simp_all [oldB])

theorem end_any (s : Int) (w : World) : Calls Try.prog 7 #[.int .i64 s] w fun e w' => e = .returned (.int .i64 (if s = 0 then 6 else 0)) ∧ w = w' := by
  go_enter Try.func7, Try.ntmps7
  go_wp2_with fail
  all_goals go_returns
  all_goals (refine ⟨?_, rfl⟩; simp_all)

set_option maxHeartbeats 1600000 in
theorem request_r (s t : Int) (srv : Bool) (w : World) (hs : (Lit.int .i64 s).wf = true) (ht : (Lit.int .u64 t).wf = true) (r : Int × Int) (hr : Hid (req s t = r)) :
    Calls Try.prog 6 #[.int .i64 s, .int .u64 t, .bool srv] w fun e w' => e = .returned (.tuple #[.int .i64 r.1, .int .i64 r.2]) ∧ Below w.heap.size w w' := by
  have hmm := @run_makeMap Try.prog
  have m0 := Mq.made w.drew
  have HS := Lib.hid hs
  have HT := Lib.hid ht
  clear hs ht
  go_enter Try.func6, Try.ntmps6
  go_wp2_with fail
  refine wp_region_any (by kernel_rfl) ?_
  change wpAny _ _ _ _ _ _ _ (World.drew _)
  refine wpAny_take (i := 1) (v := MvV 0 1) rfl (by kernel_rfl) (by kernel_rfl) (by kernel_rfl) (fun _ _ _ h => h) (Or.inl ⟨by rfl, fun w => by kernel_rfl⟩) ?_
  refine wpAny_take (i := 3) (v := MvV 1 1) rfl (by kernel_rfl) (by kernel_rfl) (by kernel_rfl) (fun _ _ _ h => h) (Or.inl ⟨by rfl, fun w => by kernel_rfl⟩) ?_
  refine wpAny_take (i := 5) (v := MvV 2 1) rfl (by kernel_rfl) (by kernel_rfl) (by kernel_rfl) (fun _ _ _ h => h) (Or.inl ⟨by rfl, fun w => by kernel_rfl⟩) ?_
  refine wpAny_take (i := 7) (v := MvV 1 0) rfl (by kernel_rfl) (by kernel_rfl) (by kernel_rfl) (fun _ _ _ h => h) (Or.inl ⟨by rfl, fun w => by kernel_rfl⟩) ?_
  refine wpAny_take (i := 9) (v := MvV 2 0) rfl (by kernel_rfl) (by kernel_rfl) (by kernel_rfl) (fun _ _ _ h => h) (Or.inl ⟨by rfl, fun w => by kernel_rfl⟩) ?_
  refine wpAny_ready (rs := [0]) (by kernel_rfl) (by simp) ?_
  refine AllReady.cons rfl (fun K hK => ?_) AllReady.nil
  go_simp
  refine hK _ _ ?_
  clear hK K
  refine wpAny_five (w.drew.alloc (.map #[] 0)) w.heap.size (.tmp 11) (.tmp 12) (.tmp 13) (.tmp 14) (.tmp 15) (.tmp 16) (.const (.int .i64 1)) (.const (.int .i64 3)) (.const (.int .i64 3)) (.const (.int .i64 2)) (.const (.int .i64 2))
    (by decide +kernel) rfl rfl rfl rfl rfl rfl rfl rfl rfl rfl rfl rfl rfl rfl rfl rfl rfl rfl rfl rfl rfl rfl rfl rfl rfl rfl rfl rfl rfl rfl rfl ?_ _ 0 (by omega) m0
  intro w1 n1 hq
  have HQ := Lib.hid hq.2
  have HK : Hid (Below w.heap.size w w1) := Keeps.below ((Below.refl w.heap.size w).drew.alloc (Nat.le_refl _) _) hq.1 (by simp) (fun k hk => by omega)
  clear hq m0 hmm
  refine wpAny_take (i := 11) (v := .map (some w.heap.size)) rfl (by kernel_rfl) (by kernel_rfl) (by kernel_rfl) (fun _ _ _ h => h) (Or.inl ⟨by rfl, fun w => by kernel_rfl⟩) ?_
  refine wpAny_take (i := 12) (v := .map (some w.heap.size)) rfl (by kernel_rfl) (by kernel_rfl) (by kernel_rfl) (fun _ _ _ h => h) (Or.inl ⟨by rfl, fun w => by kernel_rfl⟩) ?_
  refine wpAny_done (by kernel_rfl) ?_ _
  go_wp2_with (at_lookup; refine halt ?_)
  refine Halted.go (wpMo_lookup _ rfl _ _ rfl w.heap.size n1 reqMap rfl HQ.out s t rfl HS.out HT.out ?_)
  have he : req s t = if s < 0 ∨ s > 3 then ((s, 9) : Int × Int) else match reqMap s t with
    | some to => ((to, 0) : Int × Int)
    | none => if badT t then ((s, 9) : Int × Int) else ((s, 0) : Int × Int) := rfl
  rw [hr.out] at he
  have HE := Lib.hid he
  clear he hr
  by_cases h1 : s < 0
  · have HR : Hid (r = (s, 9)) := Lib.hid (by rw [HE.out, if_pos (.inl h1)])
    clear HE
    generalize reqMap s t = o
    go_wp2_with fail
    go_returns
    rw [HR.out]
    exact ⟨rfl, HK.out⟩
  by_cases h2 : s > 3
  · have HR : Hid (r = (s, 9)) := Lib.hid (by rw [HE.out, if_pos (.inr h2)])
    clear HE
    generalize reqMap s t = o
    go_wp2_with fail
    go_returns
    rw [HR.out]
    exact ⟨rfl, HK.out⟩
  rw [if_neg (by omega)] at HE
  generalize reqMap s t = o at *
  cases o with
  | some v =>
    go_wp2_with fail
    go_returns
    rw [HE.out]
    exact ⟨rfl, HK.out⟩
  | none =>
    go_wp2_with (go_at_call 10; refine (old_any _ _).mono ?_; rintro e w' ⟨rfl, rfl⟩; dsimp only)
    all_goals go_returns
    all_goals (refine ⟨?_, HK.out⟩; rw [HE.out]; simp_all [badT])

theorem request_any (s t : Int) (srv : Bool) (w : World) (hs : (Lit.int .i64 s).wf = true) (ht : (Lit.int .u64 t).wf = true) :
    Calls Try.prog 6 #[.int .i64 s, .int .u64 t, .bool srv] w fun e w' => e = .returned (.tuple #[.int .i64 (req s t).1, .int .i64 (req s t).2]) ∧ Below w.heap.size w w' :=
  request_r s t srv w hs ht _ (Lib.hid rfl)

theorem control_r (s t : Int) (srv : Bool) (w : World) (r : Int × Int) (hr : Hid (ctl s t srv = r)) :
    Calls Try.prog 8 #[.int .i64 s, .int .u64 t, .bool srv] w fun e w' => e = .returned (.tuple #[.int .i64 r.1, .int .i64 r.2]) ∧ w = w' := by
  have he : ctl s t srv = if s = 0 then (if t = 4 then ((1, 0) : Int × Int) else (0, 4)) else if s ≠ 1 then (s, 9) else if t = 4 ∨ t = 0 ∨ t = 1 ∨ t = 5 ∨ (t = 13 ∧ srv = false) ∨ oldB t = true then (1, 9) else (1, 0) := rfl
  rw [hr.out] at he
  have HE := Lib.hid he
  clear he hr
  cases srv
  all_goals
    go_enter Try.func8, Try.ntmps8
    go_wp2_with (go_at_call 10; refine (old_any _ _).mono ?_; rintro e w' ⟨rfl, rfl⟩; dsimp only)
    all_goals go_returns
    all_goals (refine ⟨?_, rfl⟩; rw [HE.out]; simp_all)

theorem control_any (s t : Int) (srv : Bool) (w : World) :
    Calls Try.prog 8 #[.int .i64 s, .int .u64 t, .bool srv] w fun e w' => e = .returned (.tuple #[.int .i64 (ctl s t srv).1, .int .i64 (ctl s t srv).2]) ∧ w = w' :=
  control_r s t srv w _ (Lib.hid rfl)

end Go.Proofs.Ytaelhcoeejpglaa
