/- A block that is split: the document. -/
import Derived.Test.YtcfljnlfikkhaaaBlkH
namespace Go.Proofs.Ytcfljnlfikkhaaa
open Go.RowKit Go.Deep

theorem sp_at (st : Int) (p : Nat) (ys : List UInt8) (i nb : Nat) (a : Option Addr) (c k : Nat) (t fl : Int) (ht : t = spT i) (hnb : nb = ys.length - i * p) (hpos : i = 0 ∨ 0 < nb) (hk : k = if nb ≤ p then nb else p) (hfl : fl = if nb ≤ p then 4 else 0) :
    SpAt st false p ys i ⟨t, fl, st, a, k, c, (ys.drop (i * p)).take k⟩ := by
  have h2 : (i + 1) * p = i * p + p := Nat.succ_mul i p
  refine ⟨ht, ?_, rfl, ?_⟩
  · show fl = spF false p ys.length i
    unfold spF spL
    rw [hfl]
    have h0 : (if i = 0 then (if false = true then (1 : Int) else 0) else 0) = 0 := by split <;> rfl
    rw [h0]
    by_cases h : nb ≤ p
    · rw [if_pos h, decide_eq_true (show ys.length ≤ (i + 1) * p by omega)]; rfl
    · rw [if_neg h, decide_eq_false (show ¬ ys.length ≤ (i + 1) * p by omega)]; rfl
  · show (ys.drop (i * p)).take k = (ys.drop (i * p)).take p
    split at hk
    · rw [hk, List.take_of_length_le (by simp; omega), List.take_of_length_le (by simp; omega)]
    · rw [hk]

set_option maxRecDepth 100000 in
set_option maxHeartbeats 6400000 in
theorem rsplit_any (st : Int) (p : Nat) (a : Option Addr) (n cap : Nat) (ys : List UInt8) (w : World) (hx : By w a n cap ys) (hn : n ≤ 1000) (hp0 : 1 ≤ p) (hp1 : p ≤ 16384) :
    Calls Try.prog 14 #[.int .u32 st, .bool false, .slice a n cap, .int .i64 (p : Int)] w (SplP st false p ys w) := by
  have hxl := hx.1
  have hcap := hx.2.le
  have HX := Lib.hid hx
  have HXL := Lib.hid hxl
  have HLT : Hid (∀ b, a.map (·.block) = some b → b < w.heap.size ∨ n = 0) := fun b hb => by
    rcases hx.2.at_ with h0 | ⟨b', off, rfl, hb', _⟩
    · right
      have : (Bs ys).length = ys.length := by simp [Bs]
      rw [h0] at this
      simp at this
      omega
    · left; simp at hb; omega
  have hpd1 : decide ((p : Int) < 1) = false := by simp; omega
  have hpd2 : decide ((16384 : Int) < (p : Int)) = false := by simp; omega
  clear hx hxl
  go_enter Try.func14, Try.ntmps14
  go_wp2_with fail
  go_loopg [2, 9, 10] (n + 1) (fun k vb vo vf wr => ∃ (ab : Option Addr) (nb cb : Nat) (ao : Option Addr) (co : Nat) (l : List Fq), vb = .slice ab nb cb ∧ ((vf = .bool true ∧ vo = .slice none 0 0 ∧ l = [] ∧ ao = none ∧ co = 0 ∧ nb = n ∧ k = n + 1) ∨ (vf = .bool false ∧ vo = .slice ao l.length co ∧ 1 ≤ l.length ∧ nb = k)) ∧ nb = n - l.length * p ∧ By wr ab nb cb (ys.drop (l.length * p)) ∧ ab.map (·.block) = a.map (·.block) ∧ Qo w.heap.size wr ao co l ∧ SpOK st false p ys l ∧ (l.length ≤ 1 ∨ (l.length - 1) * p < n) ∧ Below w.heap.size w wr)
  case atStart => exact ⟨a, n, cap, none, 0, [], rfl, .inl ⟨rfl, rfl, rfl, rfl, rfl, rfl, rfl⟩, by simp, by simpa using HX.out, rfl, Qo.nil _ _, SpOK.nil _ _ _ _, .inl (by simp), Below.refl _ _⟩
  case round =>
    obtain ⟨ab, nb, cb, ao, co, l, rfl, hor, hnb, hby, hbl, hqo, hso, hla, hk⟩ := hrel
    have HBY := Lib.hid hby
    have HBL := Lib.hid hbl
    have HQO := Lib.hid hqo
    have HSO := Lib.hid hso
    have HNB := Lib.hid hnb
    have HLA := Lib.hid hla
    have HK := Lib.hid hk
    have hnbn : nb ≤ n := by omega
    clear hby hbl hqo hso hnb hla hk
    rcases hor with ⟨rfl, rfl, rfl, rfl, rfl, rfl, rfl⟩ | ⟨rfl, rfl, hl1, rfl⟩
    · change Hid (By wr ab nb cb (ys.drop (0 * p))) at HBY
      rcases Nat.lt_trichotomy nb p with hnp | hnp | hnp
      · have hkv : nb = if nb ≤ p then nb else p := by rw [if_pos (by omega)]
        have hoff := offA_eq ab cb nb
        have hz1 : ((nb : Int) < (p : Int)) := by omega
        have hz2 : (0 : Int) ≤ (nb : Int) := by omega
        have hz3 : (nb : Int) ≤ (cb : Int) := by have := HBY.out.2.le; omega
        have hz4 : (nb : Int) ≤ (nb : Int) := by omega
        have hz5 : (nb : Int) ≤ (cb : Int) := by have := HBY.out.2.le; omega
        have hz6 : ((nb : Int) == (nb : Int)) = true := by simp
        
        have hnx := drop_next p ys 0 nb nb (by have := HXL.out; omega) hkv
        have hsp := sp_at st p ys 0 nb none 0 nb 1 4 (by rfl) (by have := HXL.out; omega) (.inl rfl) hkv (by rw [if_pos (by omega)])
        have HNX := Lib.hid hnx
        have HSP := Lib.hid hsp
        clear hnx hsp hkv
        go_wp2_with (at_builtin; refine halt ?_)
        refine Halted.go (wpList_copy8 _ rfl _ rfl _ nb _ ((ys.drop (0 * p)).take nb) rfl (By.pre (n := nb) HBY.out (by omega)) (by omega) ?_)
        intro a6 c6 w6 ho6 hk6
        have hq6 := HQO.out.keep (below_no hk6) (fun _ h => False.elim h)
        have HBY6 := Lib.hid (HBY.out.keep (below_no hk6) (fun _ _ h => h))
        have HK6 := Lib.hid (HK.out.trans (hk6.mono HK.out.size))
        have HS6 : Hid (wr.heap.size ≤ w6.heap.size) := hk6.size
        have hka : Keeps (fun _ => False) w6 (w6.alloc (.cells #[.int .u8 1, .int .u8 4, .int .u32 st, .slice a6 nb c6] 33 (0, 0))) := (Keeps.refl _ w6).alloc _
        have hkb : Keeps (fun _ => False) w6 ((w6.alloc (.cells #[.int .u8 1, .int .u8 4, .int .u32 st, .slice a6 nb c6] 33 (0, 0))).alloc (.cells #[.int .u8 1, .int .u8 4, .int .u32 st, .slice a6 nb c6] 33 (0, 0))) := hka.alloc _
        have HQ8 := Lib.hid (hq6.keep hkb (fun _ h => False.elim h))
        have HBY8 := Lib.hid (HBY6.out.keep hkb (fun _ _ h => h))
        have HY8 := Lib.hid (ho6.by.keep hkb (fun _ _ h => h))
        have HG6 : Hid (∀ b, a6.map (·.block) = some b → wr.heap.size ≤ b ∧ b < w6.heap.size) := fun b hb => ho6.ge b hb
        have hfb := Blk.new (w6.alloc (.cells #[.int .u8 1, .int .u8 4, .int .u32 st, .slice a6 nb c6] 33 (0, 0))) #[.int .u8 1, .int .u8 4, .int .u32 st, .slice a6 nb c6] 33
        rw [World.size_alloc] at hfb
        have HFB := Lib.hid hfb
        obtain ⟨⟨f0, f1, f2, f3⟩, _⟩ := fr_cells (Blk.new w6 #[.int .u8 1, .int .u8 4, .int .u32 st, .slice a6 nb c6] 33)
        obtain ⟨⟨d0, d1, d2, d3⟩, _⟩ := fr_cells (Blk.new w6 #[.int .u8 1, .int .u8 0, .int .u32 st, .slice a6 nb c6] 33)
        clear ho6 hk6 hq6 hka hkb hfb
        obtain ⟨i0, hi0, hi1, hi2, hi3⟩ := info_parts infoF
        have HI := Lib.hid hi0
        have HZ0 := Lib.hid hi1
        have HZ1 := Lib.hid hi2
        have HZ2 := Lib.hid hi3
        clear hi0 hi1 hi2 hi3
        go_wp2_with (at_builtin; refine halt ?_)
        refine Halted.go (wpList_app _ rfl _ _ 22 22 rfl w.heap.size 33 i0 _ 4 32 Try.underlying22 HI.out HZ0.out HZ1.out HZ2.out rfl none 0 0 [] rfl (.inl HQ8.out.1) (.slice (some ⟨w6.heap.size + 1, 0, none⟩) 1 1) rfl 1 [.int .u8 1, .int .u8 4, .int .u32 st, .slice a6 nb c6] (src_blk HFB.out Try.underlying22 rfl (by simp [Value.oneCell'])) (by unfold maxLen; omega) (by omega) (by have := HK6.out.size; simp; omega) ?_)
        intro a9 c9 w9 _ hk9 hn9 hown9 _
        have HQ9 : Hid (Qo w.heap.size w9 a9 c9 ([] ++ [⟨1, 4, st, a6, nb, c6, (ys.drop (0 * p)).take nb⟩])) := Lib.hid (Qo.snoc (f := ⟨1, 4, st, a6, nb, c6, (ys.drop (0 * p)).take nb⟩) HQ8.out hk9 hn9 (hown9 (by omega)) HY8.out (fun b hb => by
          have h1 := HG6.out b hb
          have h0 := HK.out.size
          refine ⟨by omega, by simp; omega, fun e => ?_⟩
          cases e
          ))
        have HK9 := Lib.hid (Keeps.mine_below ((HK6.out.alloc (by have := HK6.out.size; omega) (.cells #[.int .u8 1, .int .u8 4, .int .u32 st, .slice a6 nb c6] 33 (0, 0))).alloc (by have := HK6.out.size; simp; omega) (.cells #[.int .u8 1, .int .u8 4, .int .u32 st, .slice a6 nb c6] 33 (0, 0))) hk9 (by have := HK6.out.size; simp; omega) (Nat.le_refl _))
        have HBY9 := Lib.hid ((HBY8.out.keep hk9 (fun b hb h => by have h1 := HLT.out b (by rw [← HBL.out]; exact hb); have h2 := h.1; exact absurd h.2 (by simp))).from nb (by omega))
        clear hk9 hn9 hown9 f0 f1 f2 f3 d0 d1 d2 d3
        go_wp2_with fail
        go_roundg (nb - nb)
        case measure => omega
        case rel => exact ⟨offA ab cb nb, nb - nb, cb - nb, a9, c9, [] ++ [⟨1, 4, st, a6, nb, c6, (ys.drop (0 * p)).take nb⟩], by first | rfl | (simp; done) | (rw [show nb - nb = 0 by omega]) | (unfold offA; rw [if_neg (by omega)]), .inr ⟨rfl, by simp, by simp, rfl⟩, by rw [HNX.out.2, HXL.out]; simp, by rw [List.length_append]; rw [HNX.out.1] at HBY9; exact HBY9.out, by rw [offA_block]; exact HBL.out, HQ9.out, (SpOK.nil st false p ys).snoc ⟨HSP.out.1, HSP.out.2.1, HSP.out.2.2.1, HSP.out.2.2.2⟩, .inl (by simp), HK9.out⟩

      · have hnp1 := Nat.le_of_eq hnp
        have hnp2 := Nat.le_of_eq hnp.symm
        clear hnp
        have hkv : p = if nb ≤ p then nb else p := by rw [if_pos (by omega)]; omega
        have hoff := offA_eq ab cb p
        have hz1 : ((p : Int) ≤ (nb : Int)) := by omega
        have hz2 : (0 : Int) ≤ (p : Int) := by omega
        have hz3 : (p : Int) ≤ (cb : Int) := by have := HBY.out.2.le; omega
        have hz4 : (p : Int) ≤ (nb : Int) := by omega
        have hz5 : (nb : Int) ≤ (cb : Int) := by have := HBY.out.2.le; omega
        have hz6 : (((nb - p : Nat) : Int) == 0) = true := by simp; omega
        have hz7 : ((nb : Int) - (p : Int) == 0) = true := by simp; omega
        have hnx := drop_next p ys 0 nb p (by have := HXL.out; omega) hkv
        have hsp := sp_at st p ys 0 nb none 0 p 1 4 (by rfl) (by have := HXL.out; omega) (.inl rfl) hkv (by rw [if_pos (by omega)])
        have HNX := Lib.hid hnx
        have HSP := Lib.hid hsp
        clear hnx hsp hkv
        go_wp2_with (at_builtin; refine halt ?_)
        refine Halted.go (wpList_copy8 _ rfl _ rfl _ p _ ((ys.drop (0 * p)).take p) rfl (By.pre (n := nb) HBY.out (by omega)) (by omega) ?_)
        intro a6 c6 w6 ho6 hk6
        have hq6 := HQO.out.keep (below_no hk6) (fun _ h => False.elim h)
        have HBY6 := Lib.hid (HBY.out.keep (below_no hk6) (fun _ _ h => h))
        have HK6 := Lib.hid (HK.out.trans (hk6.mono HK.out.size))
        have HS6 : Hid (wr.heap.size ≤ w6.heap.size) := hk6.size
        have hka : Keeps (fun _ => False) w6 (w6.alloc (.cells #[.int .u8 1, .int .u8 4, .int .u32 st, .slice a6 p c6] 33 (0, 0))) := (Keeps.refl _ w6).alloc _
        have hkb : Keeps (fun _ => False) w6 ((w6.alloc (.cells #[.int .u8 1, .int .u8 4, .int .u32 st, .slice a6 p c6] 33 (0, 0))).alloc (.cells #[.int .u8 1, .int .u8 4, .int .u32 st, .slice a6 p c6] 33 (0, 0))) := hka.alloc _
        have HQ8 := Lib.hid (hq6.keep hkb (fun _ h => False.elim h))
        have HBY8 := Lib.hid (HBY6.out.keep hkb (fun _ _ h => h))
        have HY8 := Lib.hid (ho6.by.keep hkb (fun _ _ h => h))
        have HG6 : Hid (∀ b, a6.map (·.block) = some b → wr.heap.size ≤ b ∧ b < w6.heap.size) := fun b hb => ho6.ge b hb
        have hfb := Blk.new (w6.alloc (.cells #[.int .u8 1, .int .u8 4, .int .u32 st, .slice a6 p c6] 33 (0, 0))) #[.int .u8 1, .int .u8 4, .int .u32 st, .slice a6 p c6] 33
        rw [World.size_alloc] at hfb
        have HFB := Lib.hid hfb
        obtain ⟨⟨f0, f1, f2, f3⟩, _⟩ := fr_cells (Blk.new w6 #[.int .u8 1, .int .u8 4, .int .u32 st, .slice a6 p c6] 33)
        obtain ⟨⟨d0, d1, d2, d3⟩, _⟩ := fr_cells (Blk.new w6 #[.int .u8 1, .int .u8 0, .int .u32 st, .slice a6 p c6] 33)
        clear ho6 hk6 hq6 hka hkb hfb
        obtain ⟨i0, hi0, hi1, hi2, hi3⟩ := info_parts infoF
        have HI := Lib.hid hi0
        have HZ0 := Lib.hid hi1
        have HZ1 := Lib.hid hi2
        have HZ2 := Lib.hid hi3
        clear hi0 hi1 hi2 hi3
        go_wp2_with (at_builtin; refine halt ?_)
        refine Halted.go (wpList_app _ rfl _ _ 22 22 rfl w.heap.size 33 i0 _ 4 32 Try.underlying22 HI.out HZ0.out HZ1.out HZ2.out rfl none 0 0 [] rfl (.inl HQ8.out.1) (.slice (some ⟨w6.heap.size + 1, 0, none⟩) 1 1) rfl 1 [.int .u8 1, .int .u8 4, .int .u32 st, .slice a6 p c6] (src_blk HFB.out Try.underlying22 rfl (by simp [Value.oneCell'])) (by unfold maxLen; omega) (by omega) (by have := HK6.out.size; simp; omega) ?_)
        intro a9 c9 w9 _ hk9 hn9 hown9 _
        have HQ9 : Hid (Qo w.heap.size w9 a9 c9 ([] ++ [⟨1, 4, st, a6, p, c6, (ys.drop (0 * p)).take p⟩])) := Lib.hid (Qo.snoc (f := ⟨1, 4, st, a6, p, c6, (ys.drop (0 * p)).take p⟩) HQ8.out hk9 hn9 (hown9 (by omega)) HY8.out (fun b hb => by
          have h1 := HG6.out b hb
          have h0 := HK.out.size
          refine ⟨by omega, by simp; omega, fun e => ?_⟩
          cases e
          ))
        have HK9 := Lib.hid (Keeps.mine_below ((HK6.out.alloc (by have := HK6.out.size; omega) (.cells #[.int .u8 1, .int .u8 4, .int .u32 st, .slice a6 p c6] 33 (0, 0))).alloc (by have := HK6.out.size; simp; omega) (.cells #[.int .u8 1, .int .u8 4, .int .u32 st, .slice a6 p c6] 33 (0, 0))) hk9 (by have := HK6.out.size; simp; omega) (Nat.le_refl _))
        have HBY9 := Lib.hid ((HBY8.out.keep hk9 (fun b hb h => by have h1 := HLT.out b (by rw [← HBL.out]; exact hb); have h2 := h.1; exact absurd h.2 (by simp))).from p (by omega))
        clear hk9 hn9 hown9 f0 f1 f2 f3 d0 d1 d2 d3
        go_wp2_with fail
        go_roundg (nb - p)
        case measure => omega
        case rel => exact ⟨offA ab cb p, nb - p, cb - p, a9, c9, [] ++ [⟨1, 4, st, a6, p, c6, (ys.drop (0 * p)).take p⟩], by first | rfl | (simp; done) | (rw [show nb - p = 0 by omega]) | (unfold offA; rw [if_neg (by omega)]), .inr ⟨rfl, by simp, by simp, rfl⟩, by rw [HNX.out.2, HXL.out]; simp, by rw [List.length_append]; rw [HNX.out.1] at HBY9; exact HBY9.out, by rw [offA_block]; exact HBL.out, HQ9.out, (SpOK.nil st false p ys).snoc ⟨HSP.out.1, HSP.out.2.1, HSP.out.2.2.1, HSP.out.2.2.2⟩, .inl (by simp), HK9.out⟩

      · have hkv : p = if nb ≤ p then nb else p := by rw [if_neg (by omega)]
        have hoff := offA_eq ab cb p
        have hz1 : ((p : Int) ≤ (nb : Int)) := by omega
        have hz2 : (0 : Int) ≤ (p : Int) := by omega
        have hz3 : (p : Int) ≤ (cb : Int) := by have := HBY.out.2.le; omega
        have hz4 : (p : Int) ≤ (nb : Int) := by omega
        have hz5 : (nb : Int) ≤ (cb : Int) := by have := HBY.out.2.le; omega
        have hz6 : (((nb - p : Nat) : Int) == 0) = false := by simp; omega
        have hz7 : ((nb : Int) - (p : Int) == 0) = false := by simp; omega
        have hnx := drop_next p ys 0 nb p (by have := HXL.out; omega) hkv
        have hsp := sp_at st p ys 0 nb none 0 p 1 0 (by rfl) (by have := HXL.out; omega) (.inl rfl) hkv (by rw [if_neg (by omega)])
        have HNX := Lib.hid hnx
        have HSP := Lib.hid hsp
        clear hnx hsp hkv
        go_wp2_with (at_builtin; refine halt ?_)
        refine Halted.go (wpList_copy8 _ rfl _ rfl _ p _ ((ys.drop (0 * p)).take p) rfl (By.pre (n := nb) HBY.out (by omega)) (by omega) ?_)
        intro a6 c6 w6 ho6 hk6
        have hq6 := HQO.out.keep (below_no hk6) (fun _ h => False.elim h)
        have HBY6 := Lib.hid (HBY.out.keep (below_no hk6) (fun _ _ h => h))
        have HK6 := Lib.hid (HK.out.trans (hk6.mono HK.out.size))
        have HS6 : Hid (wr.heap.size ≤ w6.heap.size) := hk6.size
        have hka : Keeps (fun _ => False) w6 (w6.alloc (.cells #[.int .u8 1, .int .u8 0, .int .u32 st, .slice a6 p c6] 33 (0, 0))) := (Keeps.refl _ w6).alloc _
        have hkb : Keeps (fun _ => False) w6 ((w6.alloc (.cells #[.int .u8 1, .int .u8 0, .int .u32 st, .slice a6 p c6] 33 (0, 0))).alloc (.cells #[.int .u8 1, .int .u8 0, .int .u32 st, .slice a6 p c6] 33 (0, 0))) := hka.alloc _
        have HQ8 := Lib.hid (hq6.keep hkb (fun _ h => False.elim h))
        have HBY8 := Lib.hid (HBY6.out.keep hkb (fun _ _ h => h))
        have HY8 := Lib.hid (ho6.by.keep hkb (fun _ _ h => h))
        have HG6 : Hid (∀ b, a6.map (·.block) = some b → wr.heap.size ≤ b ∧ b < w6.heap.size) := fun b hb => ho6.ge b hb
        have hfb := Blk.new (w6.alloc (.cells #[.int .u8 1, .int .u8 0, .int .u32 st, .slice a6 p c6] 33 (0, 0))) #[.int .u8 1, .int .u8 0, .int .u32 st, .slice a6 p c6] 33
        rw [World.size_alloc] at hfb
        have HFB := Lib.hid hfb
        obtain ⟨⟨f0, f1, f2, f3⟩, _⟩ := fr_cells (Blk.new w6 #[.int .u8 1, .int .u8 0, .int .u32 st, .slice a6 p c6] 33)
        obtain ⟨⟨d0, d1, d2, d3⟩, _⟩ := fr_cells (Blk.new w6 #[.int .u8 1, .int .u8 0, .int .u32 st, .slice a6 p c6] 33)
        clear ho6 hk6 hq6 hka hkb hfb
        obtain ⟨i0, hi0, hi1, hi2, hi3⟩ := info_parts infoF
        have HI := Lib.hid hi0
        have HZ0 := Lib.hid hi1
        have HZ1 := Lib.hid hi2
        have HZ2 := Lib.hid hi3
        clear hi0 hi1 hi2 hi3
        go_wp2_with (at_builtin; refine halt ?_)
        refine Halted.go (wpList_app _ rfl _ _ 22 22 rfl w.heap.size 33 i0 _ 4 32 Try.underlying22 HI.out HZ0.out HZ1.out HZ2.out rfl none 0 0 [] rfl (.inl HQ8.out.1) (.slice (some ⟨w6.heap.size + 1, 0, none⟩) 1 1) rfl 1 [.int .u8 1, .int .u8 0, .int .u32 st, .slice a6 p c6] (src_blk HFB.out Try.underlying22 rfl (by simp [Value.oneCell'])) (by unfold maxLen; omega) (by omega) (by have := HK6.out.size; simp; omega) ?_)
        intro a9 c9 w9 _ hk9 hn9 hown9 _
        have HQ9 : Hid (Qo w.heap.size w9 a9 c9 ([] ++ [⟨1, 0, st, a6, p, c6, (ys.drop (0 * p)).take p⟩])) := Lib.hid (Qo.snoc (f := ⟨1, 0, st, a6, p, c6, (ys.drop (0 * p)).take p⟩) HQ8.out hk9 hn9 (hown9 (by omega)) HY8.out (fun b hb => by
          have h1 := HG6.out b hb
          have h0 := HK.out.size
          refine ⟨by omega, by simp; omega, fun e => ?_⟩
          cases e
          ))
        have HK9 := Lib.hid (Keeps.mine_below ((HK6.out.alloc (by have := HK6.out.size; omega) (.cells #[.int .u8 1, .int .u8 0, .int .u32 st, .slice a6 p c6] 33 (0, 0))).alloc (by have := HK6.out.size; simp; omega) (.cells #[.int .u8 1, .int .u8 0, .int .u32 st, .slice a6 p c6] 33 (0, 0))) hk9 (by have := HK6.out.size; simp; omega) (Nat.le_refl _))
        have HBY9 := Lib.hid ((HBY8.out.keep hk9 (fun b hb h => by have h1 := HLT.out b (by rw [← HBL.out]; exact hb); have h2 := h.1; exact absurd h.2 (by simp))).from p (by omega))
        clear hk9 hn9 hown9 f0 f1 f2 f3 d0 d1 d2 d3
        go_wp2_with fail
        go_roundg (nb - p)
        case measure => omega
        case rel => exact ⟨offA ab cb p, nb - p, cb - p, a9, c9, [] ++ [⟨1, 0, st, a6, p, c6, (ys.drop (0 * p)).take p⟩], by first | rfl | (simp; done) | (rw [show nb - p = 0 by omega]) | (unfold offA; rw [if_neg (by omega)]), .inr ⟨rfl, by simp, by simp, rfl⟩, by rw [HNX.out.2, HXL.out]; simp, by rw [List.length_append]; rw [HNX.out.1] at HBY9; exact HBY9.out, by rw [offA_block]; exact HBL.out, HQ9.out, (SpOK.nil st false p ys).snoc ⟨HSP.out.1, HSP.out.2.1, HSP.out.2.2.1, HSP.out.2.2.2⟩, .inl (by simp), HK9.out⟩

    · have HL1 := Lib.hid hl1
      have HLN : Hid (l.length ≤ 1001) := by
        show l.length ≤ 1001
        rcases HLA.out with h | h
        · omega
        · have h2 : l.length - 1 ≤ (l.length - 1) * p := Nat.le_mul_of_pos_right _ hp0
          omega
      by_cases hpos : 0 < nb
      · rcases Nat.lt_trichotomy nb p with hnp | hnp | hnp
        · have hkv : nb = if nb ≤ p then nb else p := by rw [if_pos (by omega)]
          have hoff := offA_eq ab cb nb
          have hz1 : ((nb : Int) < (p : Int)) := by omega
          have hz2 : (0 : Int) ≤ (nb : Int) := by omega
          have hz3 : (nb : Int) ≤ (cb : Int) := by have := HBY.out.2.le; omega
          have hz4 : (nb : Int) ≤ (nb : Int) := by omega
          have hz5 : (nb : Int) ≤ (cb : Int) := by have := HBY.out.2.le; omega
          have hz6 : ((nb : Int) == (nb : Int)) = true := by simp
          
          have hnx := drop_next p ys l.length nb nb (by rw [← HXL.out]; exact HNB.out) hkv
          have hsp := sp_at st p ys l.length nb none 0 nb 9 4 (by unfold spT; rw [if_neg (by have := HL1.out; omega)]) (by rw [← HXL.out]; exact HNB.out) (.inr (by omega)) hkv (by rw [if_pos (by omega)])
          have HNX := Lib.hid hnx
          have HSP := Lib.hid hsp
          clear hnx hsp hkv
          go_wp2_with (at_builtin; refine halt ?_)
          refine Halted.go (wpList_copy8 _ rfl _ rfl _ nb _ ((ys.drop (l.length * p)).take nb) rfl (By.pre (n := nb) HBY.out (by omega)) (by omega) ?_)
          intro a6 c6 w6 ho6 hk6
          have hq6 := HQO.out.keep (below_no hk6) (fun _ h => False.elim h)
          have HBY6 := Lib.hid (HBY.out.keep (below_no hk6) (fun _ _ h => h))
          have HK6 := Lib.hid (HK.out.trans (hk6.mono HK.out.size))
          have HS6 : Hid (wr.heap.size ≤ w6.heap.size) := hk6.size
          have hka : Keeps (fun _ => False) w6 (w6.alloc (.cells #[.int .u8 9, .int .u8 4, .int .u32 st, .slice a6 nb c6] 33 (0, 0))) := (Keeps.refl _ w6).alloc _
          have hkb : Keeps (fun _ => False) w6 ((w6.alloc (.cells #[.int .u8 9, .int .u8 4, .int .u32 st, .slice a6 nb c6] 33 (0, 0))).alloc (.cells #[.int .u8 9, .int .u8 4, .int .u32 st, .slice a6 nb c6] 33 (0, 0))) := hka.alloc _
          have HQ8 := Lib.hid (hq6.keep hkb (fun _ h => False.elim h))
          have HBY8 := Lib.hid (HBY6.out.keep hkb (fun _ _ h => h))
          have HY8 := Lib.hid (ho6.by.keep hkb (fun _ _ h => h))
          have HG6 : Hid (∀ b, a6.map (·.block) = some b → wr.heap.size ≤ b ∧ b < w6.heap.size) := fun b hb => ho6.ge b hb
          have hfb := Blk.new (w6.alloc (.cells #[.int .u8 9, .int .u8 4, .int .u32 st, .slice a6 nb c6] 33 (0, 0))) #[.int .u8 9, .int .u8 4, .int .u32 st, .slice a6 nb c6] 33
          rw [World.size_alloc] at hfb
          have HFB := Lib.hid hfb
          obtain ⟨⟨f0, f1, f2, f3⟩, _⟩ := fr_cells (Blk.new w6 #[.int .u8 9, .int .u8 4, .int .u32 st, .slice a6 nb c6] 33)
          obtain ⟨⟨d0, d1, d2, d3⟩, _⟩ := fr_cells (Blk.new w6 #[.int .u8 9, .int .u8 0, .int .u32 st, .slice a6 nb c6] 33)
          clear ho6 hk6 hq6 hka hkb hfb
          obtain ⟨i0, hi0, hi1, hi2, hi3⟩ := info_parts infoF
          have HI := Lib.hid hi0
          have HZ0 := Lib.hid hi1
          have HZ1 := Lib.hid hi2
          have HZ2 := Lib.hid hi3
          clear hi0 hi1 hi2 hi3
          go_wp2_with (at_builtin; refine halt ?_)
          refine Halted.go (wpList_app _ rfl _ _ 22 22 rfl w.heap.size 33 i0 _ 4 32 Try.underlying22 HI.out HZ0.out HZ1.out HZ2.out rfl ao l.length co (fqs l) rfl (.inl HQ8.out.1) (.slice (some ⟨w6.heap.size + 1, 0, none⟩) 1 1) rfl 1 [.int .u8 9, .int .u8 4, .int .u32 st, .slice a6 nb c6] (src_blk HFB.out Try.underlying22 rfl (by simp [Value.oneCell'])) (by unfold maxLen; have := HLN.out; omega) (by have := HLN.out; omega) (by have := HK6.out.size; simp; omega) ?_)
          intro a9 c9 w9 _ hk9 hn9 hown9 _
          have HQ9 : Hid (Qo w.heap.size w9 a9 c9 (l ++ [⟨9, 4, st, a6, nb, c6, (ys.drop (l.length * p)).take nb⟩])) := Lib.hid (Qo.snoc (f := ⟨9, 4, st, a6, nb, c6, (ys.drop (l.length * p)).take nb⟩) HQ8.out hk9 hn9 (hown9 (by omega)) HY8.out (fun b hb => by
            have h1 := HG6.out b hb
            have h0 := HK.out.size
            refine ⟨by omega, by simp; omega, fun e => ?_⟩
            have h2 := own_ge HQO.out.1 b e
            omega))
          have HK9 := Lib.hid (Keeps.mine_below ((HK6.out.alloc (by have := HK6.out.size; omega) (.cells #[.int .u8 9, .int .u8 4, .int .u32 st, .slice a6 nb c6] 33 (0, 0))).alloc (by have := HK6.out.size; simp; omega) (.cells #[.int .u8 9, .int .u8 4, .int .u32 st, .slice a6 nb c6] 33 (0, 0))) hk9 (by have := HK6.out.size; simp; omega) (Nat.le_refl _))
          have HBY9 := Lib.hid ((HBY8.out.keep hk9 (fun b hb h => by have h1 := HLT.out b (by rw [← HBL.out]; exact hb); have h2 := h.1; omega)).from nb (by omega))
          clear hk9 hn9 hown9 f0 f1 f2 f3 d0 d1 d2 d3
          go_wp2_with fail
          go_roundg (nb - nb)
          case measure => omega
          case rel => exact ⟨offA ab cb nb, nb - nb, cb - nb, a9, c9, l ++ [⟨9, 4, st, a6, nb, c6, (ys.drop (l.length * p)).take nb⟩], by first | rfl | (simp; done) | (rw [show nb - nb = 0 by omega]) | (unfold offA; rw [if_neg (by omega)]), .inr ⟨rfl, by simp, by simp, rfl⟩, by rw [HNX.out.2, HXL.out]; simp, by rw [List.length_append]; rw [HNX.out.1] at HBY9; exact HBY9.out, by rw [offA_block]; exact HBL.out, HQ9.out, HSO.out.snoc ⟨HSP.out.1, HSP.out.2.1, HSP.out.2.2.1, HSP.out.2.2.2⟩, .inr (by simp; have := HNB.out; omega), HK9.out⟩

        · have hnp1 := Nat.le_of_eq hnp
          have hnp2 := Nat.le_of_eq hnp.symm
          clear hnp
          have hkv : p = if nb ≤ p then nb else p := by rw [if_pos (by omega)]; omega
          have hoff := offA_eq ab cb p
          have hz1 : ((p : Int) ≤ (nb : Int)) := by omega
          have hz2 : (0 : Int) ≤ (p : Int) := by omega
          have hz3 : (p : Int) ≤ (cb : Int) := by have := HBY.out.2.le; omega
          have hz4 : (p : Int) ≤ (nb : Int) := by omega
          have hz5 : (nb : Int) ≤ (cb : Int) := by have := HBY.out.2.le; omega
          have hz6 : (((nb - p : Nat) : Int) == 0) = true := by simp; omega
          have hz7 : ((nb : Int) - (p : Int) == 0) = true := by simp; omega
          have hnx := drop_next p ys l.length nb p (by rw [← HXL.out]; exact HNB.out) hkv
          have hsp := sp_at st p ys l.length nb none 0 p 9 4 (by unfold spT; rw [if_neg (by have := HL1.out; omega)]) (by rw [← HXL.out]; exact HNB.out) (.inr (by omega)) hkv (by rw [if_pos (by omega)])
          have HNX := Lib.hid hnx
          have HSP := Lib.hid hsp
          clear hnx hsp hkv
          go_wp2_with (at_builtin; refine halt ?_)
          refine Halted.go (wpList_copy8 _ rfl _ rfl _ p _ ((ys.drop (l.length * p)).take p) rfl (By.pre (n := nb) HBY.out (by omega)) (by omega) ?_)
          intro a6 c6 w6 ho6 hk6
          have hq6 := HQO.out.keep (below_no hk6) (fun _ h => False.elim h)
          have HBY6 := Lib.hid (HBY.out.keep (below_no hk6) (fun _ _ h => h))
          have HK6 := Lib.hid (HK.out.trans (hk6.mono HK.out.size))
          have HS6 : Hid (wr.heap.size ≤ w6.heap.size) := hk6.size
          have hka : Keeps (fun _ => False) w6 (w6.alloc (.cells #[.int .u8 9, .int .u8 4, .int .u32 st, .slice a6 p c6] 33 (0, 0))) := (Keeps.refl _ w6).alloc _
          have hkb : Keeps (fun _ => False) w6 ((w6.alloc (.cells #[.int .u8 9, .int .u8 4, .int .u32 st, .slice a6 p c6] 33 (0, 0))).alloc (.cells #[.int .u8 9, .int .u8 4, .int .u32 st, .slice a6 p c6] 33 (0, 0))) := hka.alloc _
          have HQ8 := Lib.hid (hq6.keep hkb (fun _ h => False.elim h))
          have HBY8 := Lib.hid (HBY6.out.keep hkb (fun _ _ h => h))
          have HY8 := Lib.hid (ho6.by.keep hkb (fun _ _ h => h))
          have HG6 : Hid (∀ b, a6.map (·.block) = some b → wr.heap.size ≤ b ∧ b < w6.heap.size) := fun b hb => ho6.ge b hb
          have hfb := Blk.new (w6.alloc (.cells #[.int .u8 9, .int .u8 4, .int .u32 st, .slice a6 p c6] 33 (0, 0))) #[.int .u8 9, .int .u8 4, .int .u32 st, .slice a6 p c6] 33
          rw [World.size_alloc] at hfb
          have HFB := Lib.hid hfb
          obtain ⟨⟨f0, f1, f2, f3⟩, _⟩ := fr_cells (Blk.new w6 #[.int .u8 9, .int .u8 4, .int .u32 st, .slice a6 p c6] 33)
          obtain ⟨⟨d0, d1, d2, d3⟩, _⟩ := fr_cells (Blk.new w6 #[.int .u8 9, .int .u8 0, .int .u32 st, .slice a6 p c6] 33)
          clear ho6 hk6 hq6 hka hkb hfb
          obtain ⟨i0, hi0, hi1, hi2, hi3⟩ := info_parts infoF
          have HI := Lib.hid hi0
          have HZ0 := Lib.hid hi1
          have HZ1 := Lib.hid hi2
          have HZ2 := Lib.hid hi3
          clear hi0 hi1 hi2 hi3
          go_wp2_with (at_builtin; refine halt ?_)
          refine Halted.go (wpList_app _ rfl _ _ 22 22 rfl w.heap.size 33 i0 _ 4 32 Try.underlying22 HI.out HZ0.out HZ1.out HZ2.out rfl ao l.length co (fqs l) rfl (.inl HQ8.out.1) (.slice (some ⟨w6.heap.size + 1, 0, none⟩) 1 1) rfl 1 [.int .u8 9, .int .u8 4, .int .u32 st, .slice a6 p c6] (src_blk HFB.out Try.underlying22 rfl (by simp [Value.oneCell'])) (by unfold maxLen; have := HLN.out; omega) (by have := HLN.out; omega) (by have := HK6.out.size; simp; omega) ?_)
          intro a9 c9 w9 _ hk9 hn9 hown9 _
          have HQ9 : Hid (Qo w.heap.size w9 a9 c9 (l ++ [⟨9, 4, st, a6, p, c6, (ys.drop (l.length * p)).take p⟩])) := Lib.hid (Qo.snoc (f := ⟨9, 4, st, a6, p, c6, (ys.drop (l.length * p)).take p⟩) HQ8.out hk9 hn9 (hown9 (by omega)) HY8.out (fun b hb => by
            have h1 := HG6.out b hb
            have h0 := HK.out.size
            refine ⟨by omega, by simp; omega, fun e => ?_⟩
            have h2 := own_ge HQO.out.1 b e
            omega))
          have HK9 := Lib.hid (Keeps.mine_below ((HK6.out.alloc (by have := HK6.out.size; omega) (.cells #[.int .u8 9, .int .u8 4, .int .u32 st, .slice a6 p c6] 33 (0, 0))).alloc (by have := HK6.out.size; simp; omega) (.cells #[.int .u8 9, .int .u8 4, .int .u32 st, .slice a6 p c6] 33 (0, 0))) hk9 (by have := HK6.out.size; simp; omega) (Nat.le_refl _))
          have HBY9 := Lib.hid ((HBY8.out.keep hk9 (fun b hb h => by have h1 := HLT.out b (by rw [← HBL.out]; exact hb); have h2 := h.1; omega)).from p (by omega))
          clear hk9 hn9 hown9 f0 f1 f2 f3 d0 d1 d2 d3
          go_wp2_with fail
          go_roundg (nb - p)
          case measure => omega
          case rel => exact ⟨offA ab cb p, nb - p, cb - p, a9, c9, l ++ [⟨9, 4, st, a6, p, c6, (ys.drop (l.length * p)).take p⟩], by first | rfl | (simp; done) | (rw [show nb - p = 0 by omega]) | (unfold offA; rw [if_neg (by omega)]), .inr ⟨rfl, by simp, by simp, rfl⟩, by rw [HNX.out.2, HXL.out]; simp, by rw [List.length_append]; rw [HNX.out.1] at HBY9; exact HBY9.out, by rw [offA_block]; exact HBL.out, HQ9.out, HSO.out.snoc ⟨HSP.out.1, HSP.out.2.1, HSP.out.2.2.1, HSP.out.2.2.2⟩, .inr (by simp; have := HNB.out; omega), HK9.out⟩

        · have hkv : p = if nb ≤ p then nb else p := by rw [if_neg (by omega)]
          have hoff := offA_eq ab cb p
          have hz1 : ((p : Int) ≤ (nb : Int)) := by omega
          have hz2 : (0 : Int) ≤ (p : Int) := by omega
          have hz3 : (p : Int) ≤ (cb : Int) := by have := HBY.out.2.le; omega
          have hz4 : (p : Int) ≤ (nb : Int) := by omega
          have hz5 : (nb : Int) ≤ (cb : Int) := by have := HBY.out.2.le; omega
          have hz6 : (((nb - p : Nat) : Int) == 0) = false := by simp; omega
          have hz7 : ((nb : Int) - (p : Int) == 0) = false := by simp; omega
          have hnx := drop_next p ys l.length nb p (by rw [← HXL.out]; exact HNB.out) hkv
          have hsp := sp_at st p ys l.length nb none 0 p 9 0 (by unfold spT; rw [if_neg (by have := HL1.out; omega)]) (by rw [← HXL.out]; exact HNB.out) (.inr (by omega)) hkv (by rw [if_neg (by omega)])
          have HNX := Lib.hid hnx
          have HSP := Lib.hid hsp
          clear hnx hsp hkv
          go_wp2_with (at_builtin; refine halt ?_)
          refine Halted.go (wpList_copy8 _ rfl _ rfl _ p _ ((ys.drop (l.length * p)).take p) rfl (By.pre (n := nb) HBY.out (by omega)) (by omega) ?_)
          intro a6 c6 w6 ho6 hk6
          have hq6 := HQO.out.keep (below_no hk6) (fun _ h => False.elim h)
          have HBY6 := Lib.hid (HBY.out.keep (below_no hk6) (fun _ _ h => h))
          have HK6 := Lib.hid (HK.out.trans (hk6.mono HK.out.size))
          have HS6 : Hid (wr.heap.size ≤ w6.heap.size) := hk6.size
          have hka : Keeps (fun _ => False) w6 (w6.alloc (.cells #[.int .u8 9, .int .u8 0, .int .u32 st, .slice a6 p c6] 33 (0, 0))) := (Keeps.refl _ w6).alloc _
          have hkb : Keeps (fun _ => False) w6 ((w6.alloc (.cells #[.int .u8 9, .int .u8 0, .int .u32 st, .slice a6 p c6] 33 (0, 0))).alloc (.cells #[.int .u8 9, .int .u8 0, .int .u32 st, .slice a6 p c6] 33 (0, 0))) := hka.alloc _
          have HQ8 := Lib.hid (hq6.keep hkb (fun _ h => False.elim h))
          have HBY8 := Lib.hid (HBY6.out.keep hkb (fun _ _ h => h))
          have HY8 := Lib.hid (ho6.by.keep hkb (fun _ _ h => h))
          have HG6 : Hid (∀ b, a6.map (·.block) = some b → wr.heap.size ≤ b ∧ b < w6.heap.size) := fun b hb => ho6.ge b hb
          have hfb := Blk.new (w6.alloc (.cells #[.int .u8 9, .int .u8 0, .int .u32 st, .slice a6 p c6] 33 (0, 0))) #[.int .u8 9, .int .u8 0, .int .u32 st, .slice a6 p c6] 33
          rw [World.size_alloc] at hfb
          have HFB := Lib.hid hfb
          obtain ⟨⟨f0, f1, f2, f3⟩, _⟩ := fr_cells (Blk.new w6 #[.int .u8 9, .int .u8 0, .int .u32 st, .slice a6 p c6] 33)
          obtain ⟨⟨d0, d1, d2, d3⟩, _⟩ := fr_cells (Blk.new w6 #[.int .u8 9, .int .u8 0, .int .u32 st, .slice a6 p c6] 33)
          clear ho6 hk6 hq6 hka hkb hfb
          obtain ⟨i0, hi0, hi1, hi2, hi3⟩ := info_parts infoF
          have HI := Lib.hid hi0
          have HZ0 := Lib.hid hi1
          have HZ1 := Lib.hid hi2
          have HZ2 := Lib.hid hi3
          clear hi0 hi1 hi2 hi3
          go_wp2_with (at_builtin; refine halt ?_)
          refine Halted.go (wpList_app _ rfl _ _ 22 22 rfl w.heap.size 33 i0 _ 4 32 Try.underlying22 HI.out HZ0.out HZ1.out HZ2.out rfl ao l.length co (fqs l) rfl (.inl HQ8.out.1) (.slice (some ⟨w6.heap.size + 1, 0, none⟩) 1 1) rfl 1 [.int .u8 9, .int .u8 0, .int .u32 st, .slice a6 p c6] (src_blk HFB.out Try.underlying22 rfl (by simp [Value.oneCell'])) (by unfold maxLen; have := HLN.out; omega) (by have := HLN.out; omega) (by have := HK6.out.size; simp; omega) ?_)
          intro a9 c9 w9 _ hk9 hn9 hown9 _
          have HQ9 : Hid (Qo w.heap.size w9 a9 c9 (l ++ [⟨9, 0, st, a6, p, c6, (ys.drop (l.length * p)).take p⟩])) := Lib.hid (Qo.snoc (f := ⟨9, 0, st, a6, p, c6, (ys.drop (l.length * p)).take p⟩) HQ8.out hk9 hn9 (hown9 (by omega)) HY8.out (fun b hb => by
            have h1 := HG6.out b hb
            have h0 := HK.out.size
            refine ⟨by omega, by simp; omega, fun e => ?_⟩
            have h2 := own_ge HQO.out.1 b e
            omega))
          have HK9 := Lib.hid (Keeps.mine_below ((HK6.out.alloc (by have := HK6.out.size; omega) (.cells #[.int .u8 9, .int .u8 0, .int .u32 st, .slice a6 p c6] 33 (0, 0))).alloc (by have := HK6.out.size; simp; omega) (.cells #[.int .u8 9, .int .u8 0, .int .u32 st, .slice a6 p c6] 33 (0, 0))) hk9 (by have := HK6.out.size; simp; omega) (Nat.le_refl _))
          have HBY9 := Lib.hid ((HBY8.out.keep hk9 (fun b hb h => by have h1 := HLT.out b (by rw [← HBL.out]; exact hb); have h2 := h.1; omega)).from p (by omega))
          clear hk9 hn9 hown9 f0 f1 f2 f3 d0 d1 d2 d3
          go_wp2_with fail
          go_roundg (nb - p)
          case measure => omega
          case rel => exact ⟨offA ab cb p, nb - p, cb - p, a9, c9, l ++ [⟨9, 0, st, a6, p, c6, (ys.drop (l.length * p)).take p⟩], by first | rfl | (simp; done) | (rw [show nb - p = 0 by omega]) | (unfold offA; rw [if_neg (by omega)]), .inr ⟨rfl, by simp, by simp, rfl⟩, by rw [HNX.out.2, HXL.out]; simp, by rw [List.length_append]; rw [HNX.out.1] at HBY9; exact HBY9.out, by rw [offA_block]; exact HBL.out, HQ9.out, HSO.out.snoc ⟨HSP.out.1, HSP.out.2.1, HSP.out.2.2.1, HSP.out.2.2.2⟩, .inr (by simp; have := HNB.out; omega), HK9.out⟩

      · have hn0 : nb = 0 := by omega
        have hz : decide ((0 : Int) < (nb : Int)) = false := by simp; omega
        go_wp2_with fail
        go_returns
        exact ⟨ao, co, l, rfl, HQO.out, HSO.out, HL1.out, by have := HNB.out; rw [← HXL.out]; omega, by rw [← HXL.out]; rcases HLA.out with h | h; exact .inl (by have := HL1.out; omega); exact .inr h, HK.out⟩

end Go.Proofs.Ytcfljnlfikkhaaa
