/- The walk of BlockPlays. -/
import Derived.Test.YtcfljnlfikkhaaaBlkK
import Derived.Test.YtcfljnlfikkhaaaBlkEn
import Derived.BigQuiet
namespace Go.Proofs.Ytcfljnlfikkhaaa
open Go.RowKit Go.Deep

theorem RkM.new (w : World) (m : Int) (base : Nat) (hm : -9223372036854775808 ≤ m) : base = w.heap.size + 1 → RkM base (w.alloc (.cells #[.int .i64 m, .bool false, .int .u32 0, .bool false, .slice none 0 0, .bool false] 31 (0, 0))) w.heap.size (bk0 (if m < 0 then 0 else m)) := by
  rintro rfl
  exact ⟨by omega, by simp, m, none, 0, 0, rfl, hm, Blk.new _ _ _, By.nil _, by simp⟩

set_option maxRecDepth 100000 in
set_option maxHeartbeats 3200000 in
theorem walkBlockPlays (w : World) (a0 : Int) (h0 : (Lit.int .i64 a0).wf = true) (v1 : Value) (h1 : Arg Try.prog w 22 v1) (v2 : Value) (h2 : Arg Try.prog w 23 v2) :
    Calls Try.prog 3 #[.int .i64 a0, v1, v2] w fun e w' => e = .returned (.bool true) ∧ Below w.heap.size w w' := by
  obtain ⟨g0, g1⟩ := wf_i64_iff h0
  obtain ⟨a, n, cap, l, rfl, hf⟩ := h1.frames
  obtain ⟨ab, nb, cb, lb, rfl, hb⟩ := h2.bools
  have HF := Lib.hid hf
  have HB := Lib.hid hb
  have HN : Hid (n = l.length ∧ n ≤ maxLen) := Lib.hid ⟨(hf w (Below.refl _ _)).1, Nat.le_trans (hf w (Below.refl _ _)).2.1 (hf w (Below.refl _ _)).2.2.1⟩
  have HNB : Hid (nb = lb.length ∧ nb ≤ maxLen) := Lib.hid ⟨(hb w (Below.refl _ _)).1, Nat.le_trans (hb w (Below.refl _ _)).2.1 (hb w (Below.refl _ _)).2.2.1⟩
  obtain ⟨m, hm⟩ : ∃ m, a0.tmod 400 = m := ⟨_, rfl⟩
  have hm1 := tmod_bd a0 400 (by decide)
  rw [hm] at hm1
  obtain ⟨m0, m1⟩ := hm1
  have HM := Lib.hid hm
  clear h0 h1 h2 hf hb hm
  go_enter Try.func3, Try.ntmps3
  go_wp2_with fail
  refine (known_any w).mono ?_
  rintro e w1 ⟨rfl, hk1⟩
  have HK1 := Lib.hid hk1
  clear hk1
  by_cases hn20 : 20 < n
  · go_wp2_with fail
    go_returns
    exact ⟨rfl, HK1.out⟩
  by_cases hnn : nb < n
  · go_wp2_with fail
    go_returns
    exact ⟨rfl, HK1.out⟩
  have hd20 : decide ((20 : Int) < (n : Int)) = false := by simp; omega
  have hm := HM.out
  go_wp2_with fail
  refine (new_any m w1 (by omega) (by omega)).mono ?_
  rintro e w2 ⟨rfl, hw2⟩
  clear hm hd20
  have HA2 : Hid (PkM (w1.heap.size + 1) w2 w1.heap.size (bk0 (if m < 0 then 0 else m))) := Lib.hid (by rw [hw2]; exact PkM.new w1 _ _ rfl)
  have HK2 : Hid (Below w.heap.size w w2) := Lib.hid (by rw [hw2]; exact HK1.out.alloc HK1.out.size _)
  have hs2 : w2.heap.size = w1.heap.size + 1 := by rw [hw2]; simp
  have HS2 := Lib.hid hs2
  clear hw2 hs2
  have hm := HM.out
  go_upto_region 6 with fail
  refine wp_named ?_
  intro w3 hw3
  clear hm
  have HP3 : Hid (PkM (w1.heap.size + 2) w3 w1.heap.size (bk0 (if m < 0 then 0 else m))) := Lib.hid (by
    rw [← hw3]
    exact (HA2.out.keep ((Keeps.refl (fun _ => False) w2).alloc _) (fun _ h => False.elim h) (fun h => h)).more (by omega) (by simp [HS2.out]))
  have HR3 : Hid (RkM (w1.heap.size + 2) w3 w2.heap.size (bk0 (if m < 0 then 0 else m))) := Lib.hid (by rw [← hw3]; exact RkM.new w2 m _ (by omega) (by rw [HS2.out]))
  have HK3 : Hid (Below w.heap.size w w3) := Lib.hid (by rw [← hw3]; exact HK2.out.alloc HK2.out.size _)
  have HS1 : Hid (w.heap.size ≤ w1.heap.size) := HK1.out.size
  have HOK : Hid ((bk0 (if m < 0 then 0 else m)).Ok) := Lib.hid (bk0_ok (by split <;> omega) (by split <;> omega))
  generalize bk0 (if m < 0 then 0 else m) = s0 at *
  clear hw3 HA2 HK2
  generalize w2.heap.size = b2 at *
  have HN20 : Hid (n ≤ 20) := by show _ ≤ _; omega
  go_wp2_with fail
  go_loopg [9] n (fun k vi wr => ∃ (i : Nat) (s : Bk), vi = .int .i64 i ∧ k + i = n ∧ s.Ok ∧ PkM (w1.heap.size + 2) wr w1.heap.size s ∧ RkM (w1.heap.size + 2) wr b2 s ∧ Below w.heap.size w wr)
  case atStart => exact ⟨0, s0, rfl, by omega, HOK.out, HP3.out, HR3.out, HK3.out⟩
  case round =>
    obtain ⟨i, s, rfl, hk, hok, hp, hr, hkw⟩ := hrel
    have HI := Lib.hid hk
    have HP := Lib.hid hp
    have HR := Lib.hid hr
    have HKW := Lib.hid hkw
    have HOKS := Lib.hid hok
    clear hk hp hr hkw hok HOK HP3 HR3 HK3
    by_cases hin : i < n
    · have hix : i < l.length := by have := HN.out.1; omega
      obtain ⟨bb, oo, rfl, hbb, ⟨c0, c1, c2, c3⟩, hy, hwf⟩ := (HF.out wr HKW.out).2.2.2 i hix
      have HY := Lib.hid hy
      have HWF := Lib.hid hwf
      clear hy hwf
      generalize hf : l[i] = f at *
      have HLF := Lib.hid hf
      clear hf
      by_cases h100 : 100 < f.n
      · go_wp2_with fail
        go_returns
        exact ⟨rfl, HKW.out⟩
      go_wp2_with fail
      refine (add_any _ _ s f.t f.fl f.st f.a f.n f.cap f.xs wr HP.out HOKS.out HY.out (by omega)).mono ?_
      rintro e w5 ⟨rfl, hp5, hk5⟩
      have HK5 : Hid (Below w.heap.size w w5) := Lib.hid (Keeps.below HKW.out hk5 HKW.out.size (fun k h => by have := HS1.out; omega))
      have HP5 := Lib.hid hp5
      have HR5 := Lib.hid (HR.out.keep hk5 (fun b h => by omega) (by have := HS2.out; omega))
      clear hp5 hk5 c0 c1 c2 c3 HY HP HR
      obtain ⟨bb', oo', hab, _, ⟨c0, c1, c2, c3⟩, hy, hwf⟩ := (HF.out w5 HK5.out).2.2.2 i hix
      obtain ⟨rfl, rfl⟩ : bb = bb' ∧ oo = oo' := by simpa using hab
      rw [HLF.out] at c0 c1 c2 c3 hy
      have HY := Lib.hid hy
      clear hy hab hwf
      have HD : Hid (s.done f.t f.fl f.st f.xs = s.done f.t f.fl f.st f.xs) := Lib.hid rfl
      generalize hdn : s.done f.t f.fl f.st f.xs = d at *
      generalize hrl : s.rule f.t f.fl f.st f.xs = r at *
      have HDN := Lib.hid hdn
      have HRL := Lib.hid hrl
      clear hdn hrl HD
      go_wp2_with fail
      refine (radd_any _ _ s f.t f.fl f.st f.a f.n f.cap f.xs w5 HR5.out HOKS.out HY.out (by omega)).mono ?_
      rintro e w6 ⟨rfl, hr6, hk6⟩
      have HK6 : Hid (Below w.heap.size w w6) := Lib.hid (Keeps.below HK5.out hk6 HK5.out.size (fun k h => by have := HS1.out; have := HS2.out; omega))
      have HP6 := Lib.hid (HP5.out.keep hk6 (fun b h => by have := HS2.out; omega) (by have := HS2.out; omega))
      have HR6 := Lib.hid hr6
      rw [HDN.out, HRL.out]
      clear hr6 hk6 c0 c1 c2 c3 HY HP5 HR5
      have HOKA : Hid ((s.add f.t f.fl f.st f.xs).Ok) := Lib.hid (Bk.add_ok HOKS.out _ _ _ _ HWF.out.2.2.2.2.1 HWF.out.2.2.2.2.2)
      generalize s.add f.t f.fl f.st f.xs = s6 at *
      have hz1 : (d != d) = false := by simp
      have hz2 : (r != r) = false := by simp
      have hz3 : (s6.opn != s6.opn) = false := by simp
      have ho1 : w6.cell? ⟨b2, 1, none⟩ = some (.bool s6.opn) := by
        obtain ⟨_, _, mm, ax, nx, cx, _, _, hbk, _⟩ := HR6.out
        exact hbk.cell 1
      go_wp2_with fail
      go_quiet ((go_at_call 10; exact quiet_same (open_any _ _ s6 _ (HP6.out.keep ((Keeps.refl (fun _ => False) w6).drewN _) (fun _ h => False.elim h) (fun h => h)))))
      have HK7 : Hid (Below w.heap.size w (w6.drewN nq)) := Lib.hid (Below.drewN' HK6.out nq)
      have HP7 := Lib.hid (HP6.out.keep ((Keeps.refl (fun _ => False) w6).drewN nq) (fun _ h => False.elim h) (fun h => h))
      have HR7 := Lib.hid (HR6.out.keep ((Keeps.refl (fun _ => False) w6).drewN nq) (fun _ h => False.elim h) (fun h => h))
      clear ho1 HP6 HR6
      generalize w6.drewN nq = w7 at *
      have hil : i < lb.length := by have := HNB.out.1; omega
      obtain ⟨b9, o9, rfl, hb9, c9⟩ := (HB.out w7 HK7.out).2.2.2 i hil
      generalize hlb : lb[i] = q at *
      have HLB := Lib.hid hlb
      clear hlb hz1 hz2 hz3
      obtain ⟨g, rfl⟩ : ∃ g, gk = g + 1 := ⟨gk - 1, by have := HI.out; omega⟩
      have hnb9 : i < nb := by omega
      cases q with
      | false =>
        go_wp2_with fail
        go_roundg g
        case measure => omega
        case rel => exact ⟨i + 1, s6, by go_num, by have := HI.out; omega, HOKA.out, HP7.out, HR7.out, HK7.out⟩
      | true =>
        go_wp2_with fail
        refine (take_any _ _ s6 w7 HP7.out HOKA.out).mono ?_
        rintro e w8 ⟨ht8, hp8, hk8⟩
        have HK8 : Hid (Below w.heap.size w w8) := Lib.hid (Keeps.below HK7.out hk8 HK7.out.size (fun k h => by have := HS1.out; omega))
        have HP8 := Lib.hid hp8
        have HR8 := Lib.hid (HR7.out.keep hk8 (fun b h => by omega) (by have := HS2.out; omega))
        clear hp8 hk8 c9
        have HOKT := Lib.hid (Bk.took_ok HOKA.out)
        cases hw : s6.whl with
        | false =>
          have HW := Lib.hid hw
          unfold TkP at ht8
          rw [if_neg (by rw [hw]; simp)] at ht8
          subst ht8
          clear hw
          go_wp2_with fail
          refine (rtake_any _ _ s6 w8 HR8.out HOKA.out).mono ?_
          rintro e w9 ⟨ht9, hr9, hk9⟩
          have HK9 : Hid (Below w.heap.size w w9) := Lib.hid (Keeps.below HK8.out hk9 HK8.out.size (fun k h => by have := HS1.out; have := HS2.out; omega))
          have HP9 := Lib.hid (HP8.out.keep hk9 (fun b h => by have := HS2.out; omega) (by have := HS2.out; omega))
          have HR9 := Lib.hid hr9
          unfold TkP at ht9
          rw [if_neg (by rw [HW.out]; simp)] at ht9
          subst ht9
          clear hr9 hk9
          have HY9 := Lib.hid (By.nil w9)
          go_wp2_with fail
          refine By.upon HY9.out ?_
          go_wp2_with fail
          refine By.upon HY9.out ?_
          go_wp2_with fail
          go_roundg g
          case measure => omega
          case rel => exact ⟨i + 1, s6.took, by go_num, by have := HI.out; omega, HOKT.out, HP9.out, HR9.out, HK9.out⟩
        | true =>
          have HW := Lib.hid hw
          unfold TkP at ht8
          rw [if_pos hw] at ht8
          obtain ⟨a8, n8, c8, rfl, hy8, hg8⟩ := ht8
          have HY8 := Lib.hid hy8
          have HG8 := Lib.hid hg8
          clear hw hy8 hg8
          go_wp2_with fail
          refine (rtake_any _ _ s6 w8 HR8.out HOKA.out).mono ?_
          rintro e w9 ⟨ht9, hr9, hk9⟩
          have HK9 : Hid (Below w.heap.size w w9) := Lib.hid (Keeps.below HK8.out hk9 HK8.out.size (fun k h => by have := HS1.out; have := HS2.out; omega))
          have HP9 := Lib.hid (HP8.out.keep hk9 (fun b h => by have := HS2.out; omega) (by have := HS2.out; omega))
          have HR9 := Lib.hid hr9
          have HY9 := Lib.hid (HY8.out.keep hk9 (fun b' hb' e => by have := (HG8.out b' hb').1; have := HS2.out; omega))
          unfold TkP at ht9
          rw [if_pos HW.out] at ht9
          obtain ⟨a9, n9, c9, rfl, hz9, hg9⟩ := ht9
          have HZ9 := Lib.hid hz9
          clear hr9 hk9 hz9 hg9
          have hst : (s6.st != s6.st) = false := by simp
          have hfin : (s6.fin != s6.fin) = false := by simp
          go_wp2_with fail
          refine By.upon HY9.out ?_
          go_wp2_with fail
          refine By.upon HZ9.out ?_
          go_wp2_with fail
          go_roundg g
          case measure => omega
          case rel => exact ⟨i + 1, s6.took, by go_num, by have := HI.out; omega, HOKT.out, HP9.out, HR9.out, HK9.out⟩
    · go_wp2_with fail
      go_returns
      exact ⟨rfl, HKW.out⟩

end Go.Proofs.Ytcfljnlfikkhaaa
