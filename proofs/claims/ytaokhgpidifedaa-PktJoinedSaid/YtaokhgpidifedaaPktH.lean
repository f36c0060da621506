/- Write of the package qpkt. -/
import Derived.Test.YtaokhgpidifedaaPktG
import Derived.Test.YtaokhgpidifedaaHeldA
namespace Go.Proofs.Ytaokhgpidifedaa
open Go.RowKit Go.Deep

def pkE (lg : Bool) (ty ve : Int) (dx sx : List UInt8) (pn : Int) (P : Nat) (ys : List UInt8) : List UInt8 := if lg then pktL ty ve dx sx pn P ys else pktS dx pn P ys
def wrOK (lg : Bool) (ty ve : Int) (dx sx : List UInt8) (pn pl : Int) (ys : List UInt8) : Bool := hdOK lg ty pn pl dx.length sx.length && decide (ys.length ≤ 1200) && decide ((pkE lg ty ve dx sx pn pl.toNat ys).length ≤ 1200)
def wrX (lg : Bool) (ty ve : Int) (dx sx : List UInt8) (pn pl : Int) (ys : List UInt8) : List UInt8 := if wrOK lg ty ve dx sx pn pl ys then pkE lg ty ve dx sx pn pl.toNat ys else []
def wrE (lg : Bool) (ty ve : Int) (dx sx : List UInt8) (pn pl : Int) (ys : List UInt8) : Int := if wrOK lg ty ve dx sx pn pl ys then 0 else 40
theorem wr_good {lg : Bool} {ty ve : Int} {dx sx : List UInt8} {pn pl : Int} {ys : List UInt8} (h : wrOK lg ty ve dx sx pn pl ys = true) : wrX lg ty ve dx sx pn pl ys = pkE lg ty ve dx sx pn pl.toNat ys ∧ wrE lg ty ve dx sx pn pl ys = 0 := by unfold wrX wrE; rw [h]; exact ⟨rfl, rfl⟩
theorem wr_bad {lg : Bool} {ty ve : Int} {dx sx : List UInt8} {pn pl : Int} {ys : List UInt8} (h : wrOK lg ty ve dx sx pn pl ys = false) : wrX lg ty ve dx sx pn pl ys = [] ∧ wrE lg ty ve dx sx pn pl ys = 40 := by unfold wrX wrE; rw [h]; exact ⟨rfl, rfl⟩

theorem first1 (T : Int) (P : Nat) (t0 : 0 ≤ T) (t1 : T ≤ 3) (p0 : 1 ≤ P) (p1 : P ≤ 4) : Value.int .u8 (bits .or .u8 (bits .or .u8 192 (T * 16)) ((P : Int) - 1)) = B (byt (192 + 16 * T + P - 1)) := by
  rcases (show T = 0 ∨ T = 1 ∨ T = 2 ∨ T = 3 by omega) with rfl | rfl | rfl | rfl <;> rcases (show P = 1 ∨ P = 2 ∨ P = 3 ∨ P = 4 by omega) with rfl | rfl | rfl | rfl <;> kernel_rfl
theorem first3 (P : Nat) (p0 : 1 ≤ P) (p1 : P ≤ 4) : Value.int .u8 (bits .or .u8 64 ((P : Int) - 1)) = B (byt (64 + P - 1)) := by
  rcases (show P = 1 ∨ P = 2 ∨ P = 3 ∨ P = 4 by omega) with rfl | rfl | rfl | rfl <;> kernel_rfl
theorem var_res (xs : List UInt8) (v : Int) (h : v ≤ 4611686018427387903) : varsR xs [v] = xs ++ varE v := by
  have hv : varsOK [v] = true := by unfold varsOK; simp [h]
  unfold varsR
  rw [hv]
  simp [varsE]
theorem varE_le8 (v : Int) (h : v ≤ 4611686018427387903) : (varE v).length ≤ 8 := by
  have hk := varE_length v (by rcases varLenV_cases v with h | h | h | h | h <;> omega)
  rcases varLenV_cases v with h | h | h | h | h <;> omega

set_option maxHeartbeats 1600000 in
theorem write_bad (lg : Bool) (ty ve : Int) (da : Option Addr) (dn dc : Nat) (sa : Option Addr) (sn sc : Nat) (pn pl : Int) (a : Option Addr) (m cap : Nat) (w : World) (h0 : 0 ≤ pn) (h1 : pn ≤ 18446744073709551615) (hm : m ≤ 1000000000)
    (hbad : hdOK lg ty pn pl dn sn = false ∨ 1200 < m) :
    Calls Try.prog 9 #[HdV lg ty ve da dn dc sa sn sc pn pl, .slice a m cap] w fun e w' => e = .returned (.tuple #[.slice none 0 0, .int .i64 40]) ∧ Below w.heap.size w w' := by
  unfold HdV
  have HK := Lib.hid ((Below.refl w.heap.size w).alloc (Nat.le_refl _) (.cells #[.bool lg, .int .i64 ty, .int .u32 ve, .slice da dn dc, .slice sa sn sc, .int .u64 pn, .int .i64 pl] 29 (0, 0)))
  have HB := Lib.hid hbad
  clear hbad
  go_enter Try.func9, Try.ntmps9
  go_wp2_with fail
  refine (right_any lg ty ve da dn dc sa sn sc pn pl _ h0 h1).mono ?_
  rintro e w1 ⟨rfl, hk1⟩
  have HK1 := Lib.hid (HK.out.trans (hk1.mono (by simp)))
  generalize hdOK lg ty pn pl dn sn = ok at *
  clear hk1
  cases ok with
  | false =>
    go_wp2_with fail
    go_returns
    exact ⟨rfl, HK1.out⟩
  | true =>
    have hb : (1200 : Int) < (m : Int) := by rcases HB.out with h | h
                                             · cases h
                                             · omega
    go_wp2_with fail
    go_returns
    exact ⟨rfl, HK1.out⟩

set_option maxRecDepth 100000 in
set_option maxHeartbeats 3200000 in
theorem write_long (ty ve : Int) (da : Option Addr) (dc : Nat) (dx : List UInt8) (sa : Option Addr) (sc : Nat) (sx : List UInt8) (pn : Int) (P : Nat) (a : Option Addr) (m cap : Nat) (ys : List UInt8) (w : World)
    (hdx : ∀ w', Below w.heap.size w w' → By w' da dx.length dc dx) (hsx : ∀ w', Below w.heap.size w w' → By w' sa sx.length sc sx) (hyx : ∀ w', Below w.heap.size w w' → By w' a m cap ys)
    (h0 : 0 ≤ pn) (h1 : pn ≤ 18446744073709551615) (v0 : 0 ≤ ve) (v1 : ve ≤ 4294967295) (hok : hdOK true ty pn P dx.length sx.length = true) (hm : m ≤ 1200) :
    Calls Try.prog 9 #[HdV true ty ve da dx.length dc sa sx.length sc pn P, .slice a m cap] w fun e w' => ∃ a' n' c', e = .returned (.tuple #[.slice a' n' c', .int .i64 (wrE true ty ve dx sx pn P ys)]) ∧ Bo w.heap.size w' a' n' c' (wrX true ty ve dx sx pn P ys) ∧ Below w.heap.size w w' := by
  have hok0 := hok
  unfold hdOK pnOK at hok0
  simp only [Bool.and_eq_true, decide_eq_true_eq, if_true] at hok0
  obtain ⟨⟨p0, p1, hpn⟩, t0, t1, hd, hs⟩ := hok0
  have hyl : m = ys.length := (hyx w (Below.refl _ _)).1
  have HOK : Hid (wrOK true ty ve dx sx pn P ys = decide ((pktL ty ve dx sx pn P ys).length ≤ 1200)) := Lib.hid (by unfold wrOK; rw [hok, decide_eq_true (show ys.length ≤ 1200 by omega)]; simp [pkE])
  have HDX := Lib.hid hdx
  have HSX := Lib.hid hsx
  have HYX := Lib.hid hyx
  have HYL := Lib.hid hyl
  have HOK2 := Lib.hid hok
  have hmI : (m : Int) ≤ 1200 := by omega
  have hPI0 : (1 : Int) ≤ (P : Int) := by omega
  obtain ⟨dn, hdn⟩ : ∃ dn, dx.length = dn := ⟨_, rfl⟩
  obtain ⟨sn, hsn⟩ : ∃ sn, sx.length = sn := ⟨_, rfl⟩
  rw [hdn] at HDX HOK2 hd ⊢
  rw [hsn] at HSX HOK2 hs ⊢
  have HDN := Lib.hid hdn
  have HSN := Lib.hid hsn
  clear hdx hsx hyx hyl hok hdn hsn hpn
  have HK := Lib.hid ((Below.refl w.heap.size w).alloc (Nat.le_refl _) (.cells #[.bool true, .int .i64 ty, .int .u32 ve, .slice da dn dc, .slice sa sn sc, .int .u64 pn, .int .i64 P] 29 (0, 0)))
  unfold HdV
  go_enter Try.func9, Try.ntmps9
  go_wp2_with fail
  refine (right_any true ty ve da dn dc sa sn sc pn P _ h0 h1).mono ?_
  rintro e w1 ⟨rfl, hk1⟩
  rw [HOK2.out]
  have HK1 := Lib.hid (HK.out.trans (hk1.mono (by simp)))
  have HH1 := Lib.hid ((Below.keeps hk1).blk (Blk.new w #[.bool true, .int .i64 ty, .int .u32 ve, .slice da dn dc, .slice sa sn sc, .int .u64 pn, .int .i64 P] 29) (by simp))
  have hs1 : w.heap.size + 1 ≤ w1.heap.size := by have := hk1.size; simp at this; exact this
  clear hk1
  obtain ⟨⟨g0, g1, g2, g3, g4, g5, g6⟩, _⟩ := hd_cells HH1.out
  go_wp2_with (at_builtin; refine halt ?_)
  refine Halted.go (wpList_own _ rfl _ _ rfl (w.heap.size + 1) none 0 0 [] rfl (Bo.nil _ _) (some ⟨w1.heap.size, 0, none⟩) 1 1 [byt (192 + 16 * ty + P - 1)] rfl (By.new w1 [byt (192 + 16 * ty + P - 1)] #[.int .u8 (bits .or .u8 (bits .or .u8 192 (ty * 16)) ((P : Int) - 1))] 5 (by simp) (by rw [first1 ty P t0 t1 (by omega) (by omega)]; rfl)) (by omega) (by simp; omega) ?_)
  intro a2 c2 w2 ho2 hk2
  have HO2 : Hid (Bo (w.heap.size + 1) w2 a2 1 c2 [byt (192 + 16 * ty + P - 1)]) := Lib.hid ho2
  have HB2 : Hid (Below (w.heap.size + 1) w1 w2) := Lib.hid (Keeps.mine_below ((Below.refl (w.heap.size + 1) w1).alloc hs1 _) hk2 (by simp; omega) (Nat.le_refl _))
  clear ho2 hk2 g0 g1 g2 g3 g4 g5 g6
  have HH2 := Lib.hid ((Below.keeps HB2.out).blk HH1.out (by omega))
  obtain ⟨⟨g0, g1, g2, g3, g4, g5, g6⟩, _⟩ := hd_cells HH2.out
  go_wp2_with fail
  refine (big_any a2 (1) c2 ([byt (192 + 16 * ty + P - 1)]) ve 4 w2 HO2.out.by (by omega) (by omega) (by omega)).mono ?_
  rintro e w3 ⟨a3, c3, rfl, ho3, hk3⟩
  rw [(show cnt 4 = 4 from rfl)] at ho3 ⊢
  have HO3 := Lib.hid (ho3.mono (by have := HB2.out.size; omega : w.heap.size + 1 ≤ w2.heap.size))
  have HB3 := Lib.hid (HB2.out.trans (hk3.mono (by have := HB2.out.size; omega)))
  clear ho3 hk3 g0 g1 g2 g3 g4 g5 g6
  have HH3 := Lib.hid ((Below.keeps HB3.out).blk HH1.out (by omega))
  obtain ⟨⟨g0, g1, g2, g3, g4, g5, g6⟩, _⟩ := hd_cells HH3.out
  go_upto_region 7 with fail
  have hwu : IntKind.u8.wrap (dn : Int) = (dn : Int) := by rw [IntKind.wrap_u8]; omega
  refine wp_region_noPanic ?_
  refine wp_region_held (S := fun w' : World => w'.cell? ⟨w.heap.size, 0, none⟩ = some (.bool true) ∧ w'.cell? ⟨w.heap.size, 1, none⟩ = some (.int .i64 ty) ∧ w'.cell? ⟨w.heap.size, 2, none⟩ = some (.int .u32 ve) ∧ w'.cell? ⟨w.heap.size, 3, none⟩ = some (.slice da dn dc) ∧ w'.cell? ⟨w.heap.size, 4, none⟩ = some (.slice sa sn sc) ∧ w'.cell? ⟨w.heap.size, 5, none⟩ = some (.int .u64 pn) ∧ w'.cell? ⟨w.heap.size, 6, none⟩ = some (.int .i64 P)) (by kernel_rfl) ?_
  change wpAnyH _ _ _ _ _ _ _ _ (World.drew _)
  have hS : (fun w' : World => w'.cell? ⟨w.heap.size, 0, none⟩ = some (.bool true) ∧ w'.cell? ⟨w.heap.size, 1, none⟩ = some (.int .i64 ty) ∧ w'.cell? ⟨w.heap.size, 2, none⟩ = some (.int .u32 ve) ∧ w'.cell? ⟨w.heap.size, 3, none⟩ = some (.slice da dn dc) ∧ w'.cell? ⟨w.heap.size, 4, none⟩ = some (.slice sa sn sc) ∧ w'.cell? ⟨w.heap.size, 5, none⟩ = some (.int .u64 pn) ∧ w'.cell? ⟨w.heap.size, 6, none⟩ = some (.int .i64 P)) w3.drew := ⟨g0, g1, g2, g3, g4, g5, g6⟩
  refine wpAnyH_take (i := 0) (v := ?_) rfl (by kernel_rfl) (by kernel_rfl) (by kernel_rfl) (fun _ _ _ h => h) (Or.inl ⟨by kernel_rfl, ?_⟩) hS ?_
  rotate_left
  · intro wz ⟨_, _, _, _, _, _, _⟩; go_simp; try with_reducible rfl
  refine wpAnyH_take (i := 1) (v := ?_) rfl (by kernel_rfl) (by kernel_rfl) (by kernel_rfl) (fun _ _ _ h => h) (Or.inl ⟨by kernel_rfl, ?_⟩) hS ?_
  rotate_left
  · intro wz ⟨_, _, _, _, _, _, _⟩; go_simp; try with_reducible rfl
  refine wpAnyH_take (i := 2) (v := ?_) rfl (by kernel_rfl) (by kernel_rfl) (by kernel_rfl) (fun _ _ _ h => h) (Or.inl ⟨by kernel_rfl, ?_⟩) hS ?_
  rotate_left
  · intro wz ⟨_, _, _, _, _, _, _⟩; go_simp; try with_reducible rfl
  refine wpAnyH_take (i := 3) (v := ?_) rfl (by kernel_rfl) (by kernel_rfl) (by kernel_rfl) (fun _ _ _ h => h) (Or.inl ⟨by kernel_rfl, ?_⟩) hS ?_
  rotate_left
  · intro wz ⟨_, _, _, _, _, _, _⟩; go_simp; try with_reducible rfl
  refine wpAnyH_take (i := 4) (v := ?_) rfl (by kernel_rfl) (by kernel_rfl) (by kernel_rfl) (fun _ _ _ h => h) (Or.inl ⟨by kernel_rfl, ?_⟩) hS ?_
  rotate_left
  · intro wz ⟨_, _, _, _, _, _, _⟩; go_simp; try with_reducible rfl
  refine wpAnyH_take (i := 7) (v := ?_) rfl (by kernel_rfl) (by kernel_rfl) (by kernel_rfl) (fun _ _ _ h => h) (Or.inl ⟨by kernel_rfl, ?_⟩) hS ?_
  rotate_left
  · intro wz ⟨_, _, _, _, _, _, _⟩; go_simp; try with_reducible rfl
  refine wpAnyH_take (i := 8) (v := ?_) rfl (by kernel_rfl) (by kernel_rfl) (by kernel_rfl) (fun _ _ _ h => h) (Or.inl ⟨by kernel_rfl, ?_⟩) hS ?_
  rotate_left
  · intro wz ⟨_, _, _, _, _, _, _⟩; go_simp; try with_reducible rfl
  clear g0 g1 g2 g3 g4 g5 g6 hS
  have HBd : Hid (Below (w.heap.size + 1) w1 (w3.drew.alloc (.cells #[.int .u8 (dn : Int)] 5 (0, 0)))) := Lib.hid (HB3.out.drew.alloc (by have := HB3.out.size; show _ ≤ w3.heap.size; omega) _)
  have HOd : Hid (Bo (w.heap.size + 1) (w3.drew.alloc (.cells #[.int .u8 (dn : Int)] 5 (0, 0))) a3 (1 + 4) c3 ([byt (192 + 16 * ty + P - 1)] ++ bigD ve 4)) := Lib.hid (HO3.out.keep (((Keeps.refl (fun _ => False) w3).drew).alloc _) (fun _ _ h => h))
  have HHd := Lib.hid ((Below.keeps HBd.out).blk HH1.out (by omega))
  obtain ⟨⟨g0, g1, g2, g3, g4, g5, g6⟩, _⟩ := hd_cells HHd.out
  refine held_do (i := 5) (.slice (some ⟨w3.heap.size, 0, none⟩) 1 1) (w3.drew.alloc (.cells #[.int .u8 (dn : Int)] 5 (0, 0))) rfl (by kernel_rfl) (by kernel_rfl) (by kernel_rfl) ⟨g0, g1, g2, g3, g4, g5, g6⟩ ?_
  clear g0 g1 g2 g3 g4 g5 g6
  refine held_own (i := 6) rfl (by kernel_rfl) (by kernel_rfl) (.tmp 35) (.tmp 40) rfl (w.heap.size + 1) a3 (1 + 4) c3 ([byt (192 + 16 * ty + P - 1)] ++ bigD ve 4) (by kernel_rfl) HOd.out (some ⟨w3.heap.size, 0, none⟩) 1 1 [byt dn] (by kernel_rfl) (By.new w3.drew [byt dn] #[.int .u8 (dn : Int)] 5 (by simp) (by rw [B_nat dn (by omega)]; rfl)) (by omega) (by have := HBd.out.size; omega) ?_
  intro ax cx wx hox hkx
  have HOx := Lib.hid hox
  have HBx := Lib.hid (Keeps.mine_below HBd.out hkx (by have := HBd.out.size; omega) (Nat.le_refl _))
  clear hox hkx
  have HHx := Lib.hid ((Below.keeps HBx.out).blk HH1.out (by omega))
  obtain ⟨⟨g0, g1, g2, g3, g4, g5, g6⟩, _⟩ := hd_cells HHx.out
  have hS : (fun w' : World => w'.cell? ⟨w.heap.size, 0, none⟩ = some (.bool true) ∧ w'.cell? ⟨w.heap.size, 1, none⟩ = some (.int .i64 ty) ∧ w'.cell? ⟨w.heap.size, 2, none⟩ = some (.int .u32 ve) ∧ w'.cell? ⟨w.heap.size, 3, none⟩ = some (.slice da dn dc) ∧ w'.cell? ⟨w.heap.size, 4, none⟩ = some (.slice sa sn sc) ∧ w'.cell? ⟨w.heap.size, 5, none⟩ = some (.int .u64 pn) ∧ w'.cell? ⟨w.heap.size, 6, none⟩ = some (.int .i64 P)) wx := ⟨g0, g1, g2, g3, g4, g5, g6⟩
  refine ⟨hS, ?_⟩
  clear g0 g1 g2 g3 g4 g5 g6 hS
  refine held_own (i := 9) rfl (by kernel_rfl) (by kernel_rfl) (.tmp 41) (.tmp 43) rfl (w.heap.size + 1) ax ((1 + 4) + 1) cx (([byt (192 + 16 * ty + P - 1)] ++ bigD ve 4) ++ [byt dn]) (by kernel_rfl) HOx.out da dn dc dx (by kernel_rfl) (HDX.out wx (HK1.out.trans (HBx.out.mono (by omega)))) (by omega) (by have := HBx.out.size; omega) ?_
  intro a4 c4 w4 ho4 hk4
  have HO4 := Lib.hid ho4
  have HB4 := Lib.hid (Keeps.mine_below HBx.out hk4 (by have := HBx.out.size; omega) (Nat.le_refl _))
  clear ho4 hk4
  have HH4 := Lib.hid ((Below.keeps HB4.out).blk HH1.out (by omega))
  obtain ⟨⟨g0, g1, g2, g3, g4, g5, g6⟩, _⟩ := hd_cells HH4.out
  have hS : (fun w' : World => w'.cell? ⟨w.heap.size, 0, none⟩ = some (.bool true) ∧ w'.cell? ⟨w.heap.size, 1, none⟩ = some (.int .i64 ty) ∧ w'.cell? ⟨w.heap.size, 2, none⟩ = some (.int .u32 ve) ∧ w'.cell? ⟨w.heap.size, 3, none⟩ = some (.slice da dn dc) ∧ w'.cell? ⟨w.heap.size, 4, none⟩ = some (.slice sa sn sc) ∧ w'.cell? ⟨w.heap.size, 5, none⟩ = some (.int .u64 pn) ∧ w'.cell? ⟨w.heap.size, 6, none⟩ = some (.int .i64 P)) w4 := ⟨g0, g1, g2, g3, g4, g5, g6⟩
  refine ⟨hS, ?_⟩
  refine wpAnyH_take (i := 10) (v := ?_) rfl (by kernel_rfl) (by kernel_rfl) (by kernel_rfl) (fun _ _ _ h => h) (Or.inl ⟨by kernel_rfl, ?_⟩) hS ?_
  rotate_left
  · intro wz ⟨_, _, _, _, _, _, _⟩; go_simp; try with_reducible rfl
  refine wpAnyH_done (by kernel_rfl) ?_ _
  refine NoPanic.normal ?_
  clear hS
  clear hwu
  go_upto_region 8 with fail
  have hwu : IntKind.u8.wrap (sn : Int) = (sn : Int) := by rw [IntKind.wrap_u8]; omega
  refine wp_region_noPanic ?_
  refine wp_region_held (S := fun w' : World => w'.cell? ⟨w.heap.size, 0, none⟩ = some (.bool true) ∧ w'.cell? ⟨w.heap.size, 1, none⟩ = some (.int .i64 ty) ∧ w'.cell? ⟨w.heap.size, 2, none⟩ = some (.int .u32 ve) ∧ w'.cell? ⟨w.heap.size, 3, none⟩ = some (.slice da dn dc) ∧ w'.cell? ⟨w.heap.size, 4, none⟩ = some (.slice sa sn sc) ∧ w'.cell? ⟨w.heap.size, 5, none⟩ = some (.int .u64 pn) ∧ w'.cell? ⟨w.heap.size, 6, none⟩ = some (.int .i64 P)) (by kernel_rfl) ?_
  change wpAnyH _ _ _ _ _ _ _ _ (World.drew _)
  have hS : (fun w' : World => w'.cell? ⟨w.heap.size, 0, none⟩ = some (.bool true) ∧ w'.cell? ⟨w.heap.size, 1, none⟩ = some (.int .i64 ty) ∧ w'.cell? ⟨w.heap.size, 2, none⟩ = some (.int .u32 ve) ∧ w'.cell? ⟨w.heap.size, 3, none⟩ = some (.slice da dn dc) ∧ w'.cell? ⟨w.heap.size, 4, none⟩ = some (.slice sa sn sc) ∧ w'.cell? ⟨w.heap.size, 5, none⟩ = some (.int .u64 pn) ∧ w'.cell? ⟨w.heap.size, 6, none⟩ = some (.int .i64 P)) w4.drew := ⟨g0, g1, g2, g3, g4, g5, g6⟩
  refine wpAnyH_take (i := 0) (v := ?_) rfl (by kernel_rfl) (by kernel_rfl) (by kernel_rfl) (fun _ _ _ h => h) (Or.inl ⟨by kernel_rfl, ?_⟩) hS ?_
  rotate_left
  · intro wz ⟨_, _, _, _, _, _, _⟩; go_simp; try with_reducible rfl
  refine wpAnyH_take (i := 1) (v := ?_) rfl (by kernel_rfl) (by kernel_rfl) (by kernel_rfl) (fun _ _ _ h => h) (Or.inl ⟨by kernel_rfl, ?_⟩) hS ?_
  rotate_left
  · intro wz ⟨_, _, _, _, _, _, _⟩; go_simp; try with_reducible rfl
  refine wpAnyH_take (i := 2) (v := ?_) rfl (by kernel_rfl) (by kernel_rfl) (by kernel_rfl) (fun _ _ _ h => h) (Or.inl ⟨by kernel_rfl, ?_⟩) hS ?_
  rotate_left
  · intro wz ⟨_, _, _, _, _, _, _⟩; go_simp; try with_reducible rfl
  refine wpAnyH_take (i := 3) (v := ?_) rfl (by kernel_rfl) (by kernel_rfl) (by kernel_rfl) (fun _ _ _ h => h) (Or.inl ⟨by kernel_rfl, ?_⟩) hS ?_
  rotate_left
  · intro wz ⟨_, _, _, _, _, _, _⟩; go_simp; try with_reducible rfl
  refine wpAnyH_take (i := 4) (v := ?_) rfl (by kernel_rfl) (by kernel_rfl) (by kernel_rfl) (fun _ _ _ h => h) (Or.inl ⟨by kernel_rfl, ?_⟩) hS ?_
  rotate_left
  · intro wz ⟨_, _, _, _, _, _, _⟩; go_simp; try with_reducible rfl
  refine wpAnyH_take (i := 7) (v := ?_) rfl (by kernel_rfl) (by kernel_rfl) (by kernel_rfl) (fun _ _ _ h => h) (Or.inl ⟨by kernel_rfl, ?_⟩) hS ?_
  rotate_left
  · intro wz ⟨_, _, _, _, _, _, _⟩; go_simp; try with_reducible rfl
  refine wpAnyH_take (i := 8) (v := ?_) rfl (by kernel_rfl) (by kernel_rfl) (by kernel_rfl) (fun _ _ _ h => h) (Or.inl ⟨by kernel_rfl, ?_⟩) hS ?_
  rotate_left
  · intro wz ⟨_, _, _, _, _, _, _⟩; go_simp; try with_reducible rfl
  clear g0 g1 g2 g3 g4 g5 g6 hS
  have HBd : Hid (Below (w.heap.size + 1) w1 (w4.drew.alloc (.cells #[.int .u8 (sn : Int)] 5 (0, 0)))) := Lib.hid (HB4.out.drew.alloc (by have := HB4.out.size; show _ ≤ w4.heap.size; omega) _)
  have HOd : Hid (Bo (w.heap.size + 1) (w4.drew.alloc (.cells #[.int .u8 (sn : Int)] 5 (0, 0))) a4 ((1 + 4) + 1 + dn) c4 (([byt (192 + 16 * ty + P - 1)] ++ bigD ve 4) ++ [byt dn] ++ dx)) := Lib.hid (HO4.out.keep (((Keeps.refl (fun _ => False) w4).drew).alloc _) (fun _ _ h => h))
  have HHd := Lib.hid ((Below.keeps HBd.out).blk HH1.out (by omega))
  obtain ⟨⟨g0, g1, g2, g3, g4, g5, g6⟩, _⟩ := hd_cells HHd.out
  refine held_do (i := 5) (.slice (some ⟨w4.heap.size, 0, none⟩) 1 1) (w4.drew.alloc (.cells #[.int .u8 (sn : Int)] 5 (0, 0))) rfl (by kernel_rfl) (by kernel_rfl) (by kernel_rfl) ⟨g0, g1, g2, g3, g4, g5, g6⟩ ?_
  clear g0 g1 g2 g3 g4 g5 g6
  refine held_own (i := 6) rfl (by kernel_rfl) (by kernel_rfl) (.tmp 45) (.tmp 50) rfl (w.heap.size + 1) a4 ((1 + 4) + 1 + dn) c4 (([byt (192 + 16 * ty + P - 1)] ++ bigD ve 4) ++ [byt dn] ++ dx) (by kernel_rfl) HOd.out (some ⟨w4.heap.size, 0, none⟩) 1 1 [byt sn] (by kernel_rfl) (By.new w4.drew [byt sn] #[.int .u8 (sn : Int)] 5 (by simp) (by rw [B_nat sn (by omega)]; rfl)) (by omega) (by have := HBd.out.size; omega) ?_
  intro ax cx wx hox hkx
  have HOx := Lib.hid hox
  have HBx := Lib.hid (Keeps.mine_below HBd.out hkx (by have := HBd.out.size; omega) (Nat.le_refl _))
  clear hox hkx
  have HHx := Lib.hid ((Below.keeps HBx.out).blk HH1.out (by omega))
  obtain ⟨⟨g0, g1, g2, g3, g4, g5, g6⟩, _⟩ := hd_cells HHx.out
  have hS : (fun w' : World => w'.cell? ⟨w.heap.size, 0, none⟩ = some (.bool true) ∧ w'.cell? ⟨w.heap.size, 1, none⟩ = some (.int .i64 ty) ∧ w'.cell? ⟨w.heap.size, 2, none⟩ = some (.int .u32 ve) ∧ w'.cell? ⟨w.heap.size, 3, none⟩ = some (.slice da dn dc) ∧ w'.cell? ⟨w.heap.size, 4, none⟩ = some (.slice sa sn sc) ∧ w'.cell? ⟨w.heap.size, 5, none⟩ = some (.int .u64 pn) ∧ w'.cell? ⟨w.heap.size, 6, none⟩ = some (.int .i64 P)) wx := ⟨g0, g1, g2, g3, g4, g5, g6⟩
  refine ⟨hS, ?_⟩
  clear g0 g1 g2 g3 g4 g5 g6 hS
  refine held_own (i := 9) rfl (by kernel_rfl) (by kernel_rfl) (.tmp 51) (.tmp 53) rfl (w.heap.size + 1) ax (((1 + 4) + 1 + dn) + 1) cx ((([byt (192 + 16 * ty + P - 1)] ++ bigD ve 4) ++ [byt dn] ++ dx) ++ [byt sn]) (by kernel_rfl) HOx.out sa sn sc sx (by kernel_rfl) (HSX.out wx (HK1.out.trans (HBx.out.mono (by omega)))) (by omega) (by have := HBx.out.size; omega) ?_
  intro a5 c5 w5 ho5 hk5
  have HO5 := Lib.hid ho5
  have HB5 := Lib.hid (Keeps.mine_below HBx.out hk5 (by have := HBx.out.size; omega) (Nat.le_refl _))
  clear ho5 hk5
  have HH5 := Lib.hid ((Below.keeps HB5.out).blk HH1.out (by omega))
  obtain ⟨⟨g0, g1, g2, g3, g4, g5, g6⟩, _⟩ := hd_cells HH5.out
  have hS : (fun w' : World => w'.cell? ⟨w.heap.size, 0, none⟩ = some (.bool true) ∧ w'.cell? ⟨w.heap.size, 1, none⟩ = some (.int .i64 ty) ∧ w'.cell? ⟨w.heap.size, 2, none⟩ = some (.int .u32 ve) ∧ w'.cell? ⟨w.heap.size, 3, none⟩ = some (.slice da dn dc) ∧ w'.cell? ⟨w.heap.size, 4, none⟩ = some (.slice sa sn sc) ∧ w'.cell? ⟨w.heap.size, 5, none⟩ = some (.int .u64 pn) ∧ w'.cell? ⟨w.heap.size, 6, none⟩ = some (.int .i64 P)) w5 := ⟨g0, g1, g2, g3, g4, g5, g6⟩
  refine ⟨hS, ?_⟩
  refine wpAnyH_take (i := 10) (v := ?_) rfl (by kernel_rfl) (by kernel_rfl) (by kernel_rfl) (fun _ _ _ h => h) (Or.inl ⟨by kernel_rfl, ?_⟩) hS ?_
  rotate_left
  · intro wz ⟨_, _, _, _, _, _, _⟩; go_simp; try with_reducible rfl
  refine wpAnyH_done (by kernel_rfl) ?_ _
  refine NoPanic.normal ?_
  clear hS
  clear hwu
  have hmI0 : (0 : Int) ≤ (m : Int) := by omega
  go_wp2_with fail
  have HUv := Lib.hid (Uv.one w5 27 ((P : Int) + (m : Int)) (by omega) (by omega))
  have HOa : Hid (Bo (w.heap.size + 1) (w5.alloc (.cells #[.int .u64 ((P : Int) + (m : Int))] 27 (0, 0))) a5 (((1 + 4) + 1 + dn) + 1 + sn) c5 ((([byt (192 + 16 * ty + P - 1)] ++ bigD ve 4) ++ [byt dn] ++ dx) ++ [byt sn] ++ sx)) := Lib.hid (HO5.out.keep ((Keeps.refl (fun _ => False) w5).alloc _) (fun _ _ h => h))
  have HBa : Hid (Below (w.heap.size + 1) w1 (w5.alloc (.cells #[.int .u64 ((P : Int) + (m : Int))] 27 (0, 0)))) := Lib.hid (HB5.out.alloc (by have := HB5.out.size; omega) _)
  refine (var_any a5 (((1 + 4) + 1 + dn) + 1 + sn) c5 ((([byt (192 + 16 * ty + P - 1)] ++ bigD ve 4) ++ [byt dn] ++ dx) ++ [byt sn] ++ sx) (some ⟨w5.heap.size, 0, none⟩) 1 1 [(P : Int) + (m : Int)] _ HOa.out.by HUv.out (by omega) (by omega)).mono ?_
  rintro e w6 ⟨a6, n6, c6, rfl, ho6, hk6⟩
  rw [var_res ((([byt (192 + 16 * ty + P - 1)] ++ bigD ve 4) ++ [byt dn] ++ dx) ++ [byt sn] ++ sx) ((P : Int) + (m : Int)) (by omega)] at ho6
  have HO6' := Lib.hid (ho6.mono (by have := HBa.out.size; omega : w.heap.size + 1 ≤ _))
  have HB6 := Lib.hid (HBa.out.trans (hk6.mono (by have := HBa.out.size; omega)))
  clear ho6 hk6 g0 g1 g2 g3 g4 g5 g6
  obtain ⟨k, hk⟩ : ∃ k, (varE ((P : Int) + (m : Int))).length = k := ⟨_, rfl⟩
  have HKK := Lib.hid hk
  have hk8 : k ≤ 8 := by rw [← hk]; exact varE_le8 _ (by omega)
  obtain rfl : n6 = ((1 + 4) + 1 + dn) + 1 + sn + k := by rw [HO6'.out.1]; simp [HKK.out, HDN.out, HSN.out, bigD_length]; omega
  have HO6 : Hid (Bo (w.heap.size + 1) w6 a6 (((1 + 4) + 1 + dn) + 1 + sn + k) c6 (((([byt (192 + 16 * ty + P - 1)] ++ bigD ve 4) ++ [byt dn] ++ dx) ++ [byt sn] ++ sx) ++ varE ((P : Int) + (m : Int)))) := HO6'
  clear hk HO6' hmI0
  have hP4 : P ≤ 4 := by omega
  have hcP : cnt (P : Int) = P := by unfold cnt pos; omega
  have HCP := Lib.hid hcP
  clear hcP
  have HH6 := Lib.hid ((Below.keeps HB6.out).blk HH1.out (by omega))
  obtain ⟨⟨g0, g1, g2, g3, g4, g5, g6⟩, _⟩ := hd_cells HH6.out
  go_wp2_with fail
  refine (big_any a6 ((((1 + 4) + 1 + dn) + 1 + sn + k)) c6 ((((([byt (192 + 16 * ty + P - 1)] ++ bigD ve 4) ++ [byt dn] ++ dx) ++ [byt sn] ++ sx) ++ varE ((P : Int) + (m : Int)))) pn (P : Int) w6 HO6.out.by (by omega) (by omega) (by omega)).mono ?_
  rintro e w7 ⟨a7, c7, rfl, ho7, hk7⟩
  rw [HCP.out] at ho7 ⊢
  have HO7 := Lib.hid (ho7.mono (by have := HB6.out.size; omega : w.heap.size + 1 ≤ w6.heap.size))
  have HB7 := Lib.hid (HB6.out.trans (hk7.mono (by have := HB6.out.size; omega)))
  clear ho7 hk7 g0 g1 g2 g3 g4 g5 g6
  have HLEN : Hid ((pktL ty ve dx sx pn P ys).length = ((((1 + 4) + 1 + dn) + 1 + sn + k) + P) + m) := Lib.hid (by simp [pktL, bigD_length, HDN.out, HSN.out, ← HYL.out, HKK.out]; omega)
  go_wp2_with (at_builtin; refine halt ?_)
  refine Halted.go (wpList_own _ rfl _ _ rfl (w.heap.size + 1) a7 (((((1 + 4) + 1 + dn) + 1 + sn + k) + P)) c7 (((((([byt (192 + 16 * ty + P - 1)] ++ bigD ve 4) ++ [byt dn] ++ dx) ++ [byt sn] ++ sx) ++ varE ((P : Int) + (m : Int))) ++ bigD pn P)) rfl HO7.out a m cap ys rfl (HYX.out _ (HK1.out.trans (HB7.out.mono (by omega)))) (by omega) (by have := HB7.out.size; omega) ?_)
  intro a8 c8 w8 ho8 hk8
  have HO8 := Lib.hid ho8
  have HB8 := Lib.hid (Keeps.mine_below HB7.out hk8 (by have := HB7.out.size; omega) (Nat.le_refl _))
  clear ho8 hk8
  by_cases hbig : ((((1 + 4) + 1 + dn) + 1 + sn + k) + P) + m ≤ 1200
  · have HG := wr_good (lg := true) (ty := ty) (ve := ve) (dx := dx) (sx := sx) (pn := pn) (pl := (P : Int)) (ys := ys) (by rw [HOK.out, decide_eq_true_eq]; have := HLEN.out; omega)
    have HG2 := Lib.hid HG
    clear HG
    have hbI : (((((((1 + 4) + 1 + dn) + 1 + sn + k) + P) + m : Nat)) : Int) ≤ 1200 := by omega
    have hbI2 : ¬ (1200 : Int) < (((((((1 + 4) + 1 + dn) + 1 + sn + k) + P) + m : Nat)) : Int) := by omega
    go_wp2_with fail
    go_returns
    rw [HG2.out.1, HG2.out.2]
    refine ⟨a8, ((((1 + 4) + 1 + dn) + 1 + sn + k) + P) + m, c8, rfl, ?_, HK1.out.trans (HB8.out.mono (by omega))⟩
    have h := HO8.out.mono (show w.heap.size ≤ w.heap.size + 1 by omega)
    have e : (((((([byt (192 + 16 * ty + P - 1)] ++ bigD ve 4) ++ [byt dn] ++ dx) ++ [byt sn] ++ sx) ++ varE ((P : Int) + (m : Int))) ++ bigD pn P) ++ ys) = pkE true ty ve dx sx pn (P : Int).toNat ys := by
      show _ = pktL ty ve dx sx pn (P : Int).toNat ys
      rw [Int.toNat_natCast]
      simp [pktL, HDN.out, HSN.out, ← HYL.out]
    rwa [e] at h
  · have HG := wr_bad (lg := true) (ty := ty) (ve := ve) (dx := dx) (sx := sx) (pn := pn) (pl := (P : Int)) (ys := ys) (by rw [HOK.out, decide_eq_false_iff_not]; have := HLEN.out; omega)
    have HG2 := Lib.hid HG
    clear HG
    have hbI : (1200 : Int) < (((((((1 + 4) + 1 + dn) + 1 + sn + k) + P) + m : Nat)) : Int) := by omega
    go_wp2_with fail
    go_returns
    rw [HG2.out.1, HG2.out.2]
    exact ⟨none, 0, 0, rfl, Bo.nil _ _, HK1.out.trans (HB8.out.mono (by omega))⟩

set_option maxRecDepth 100000 in
set_option maxHeartbeats 3200000 in
theorem write_short (ty ve : Int) (da : Option Addr) (dc : Nat) (dx : List UInt8) (sa : Option Addr) (sn sc : Nat) (sx : List UInt8) (pn : Int) (P : Nat) (a : Option Addr) (m cap : Nat) (ys : List UInt8) (w : World)
    (hdx : ∀ w', Below w.heap.size w w' → By w' da 8 dc dx) (hsn : sx.length = sn) (hyx : ∀ w', Below w.heap.size w w' → By w' a m cap ys)
    (h0 : 0 ≤ pn) (h1 : pn ≤ 18446744073709551615) (hok : hdOK false ty pn P 8 sn = true) (hm : m ≤ 1200) :
    Calls Try.prog 9 #[HdV false ty ve da 8 dc sa sn sc pn P, .slice a m cap] w fun e w' => ∃ a' n' c', e = .returned (.tuple #[.slice a' n' c', .int .i64 (wrE false ty ve dx sx pn P ys)]) ∧ Bo w.heap.size w' a' n' c' (wrX false ty ve dx sx pn P ys) ∧ Below w.heap.size w w' := by
  have hok0 := hok
  unfold hdOK pnOK at hok0
  simp only [Bool.and_eq_true, decide_eq_true_eq] at hok0
  obtain ⟨⟨p0, p1, hpn⟩, _⟩ := hok0
  have hyl : m = ys.length := (hyx w (Below.refl _ _)).1
  have hd8 : 8 = dx.length := (hdx w (Below.refl _ _)).1
  have HOK : Hid (wrOK false ty ve dx sx pn P ys = decide ((pktS dx pn P ys).length ≤ 1200)) := Lib.hid (by unfold wrOK; rw [← hd8, hsn, hok, decide_eq_true (show ys.length ≤ 1200 by omega)]; simp [pkE])
  have HDX := Lib.hid hdx
  have HYX := Lib.hid hyx
  have HYL := Lib.hid hyl
  have HOK2 := Lib.hid hok
  have HDN := Lib.hid hd8.symm
  have hmI : (m : Int) ≤ 1200 := by omega
  have hPI0 : (1 : Int) ≤ (P : Int) := by omega
  have HPN := Lib.hid hpn
  clear hdx hyx hyl hok hsn hpn hd8
  have HK := Lib.hid ((Below.refl w.heap.size w).alloc (Nat.le_refl _) (.cells #[.bool false, .int .i64 ty, .int .u32 ve, .slice da 8 dc, .slice sa sn sc, .int .u64 pn, .int .i64 P] 29 (0, 0)))
  unfold HdV
  go_enter Try.func9, Try.ntmps9
  go_wp2_with fail
  refine (right_any false ty ve da 8 dc sa sn sc pn P _ h0 h1).mono ?_
  rintro e w1 ⟨rfl, hk1⟩
  rw [HOK2.out]
  have HK1 := Lib.hid (HK.out.trans (hk1.mono (by simp)))
  have HH1 := Lib.hid ((Below.keeps hk1).blk (Blk.new w #[.bool false, .int .i64 ty, .int .u32 ve, .slice da 8 dc, .slice sa sn sc, .int .u64 pn, .int .i64 P] 29) (by simp))
  have hs1 : w.heap.size + 1 ≤ w1.heap.size := by have := hk1.size; simp at this; exact this
  clear hk1
  obtain ⟨⟨g0, g1, g2, g3, g4, g5, g6⟩, _⟩ := hd_cells HH1.out
  have HO1 : Hid (Bo (w.heap.size + 1) w1 none 0 0 []) := Lib.hid (Bo.nil _ _)
  have HB1 : Hid (Below (w.heap.size + 1) w1 w1) := Lib.hid (Below.refl _ _)
  go_upto_region 10 with fail
  have hw1 : IntKind.i64.wrap ((P : Int) - 1) = (P : Int) - 1 := by rw [IntKind.wrap_i64]; omega
  have hw2 : IntKind.u8.wrap ((P : Int) - 1) = (P : Int) - 1 := by rw [IntKind.wrap_u8]; omega
  refine wp_region_noPanic ?_
  refine wp_region_held (S := fun w' : World => w'.cell? ⟨w.heap.size, 0, none⟩ = some (.bool false) ∧ w'.cell? ⟨w.heap.size, 1, none⟩ = some (.int .i64 ty) ∧ w'.cell? ⟨w.heap.size, 2, none⟩ = some (.int .u32 ve) ∧ w'.cell? ⟨w.heap.size, 3, none⟩ = some (.slice da 8 dc) ∧ w'.cell? ⟨w.heap.size, 4, none⟩ = some (.slice sa sn sc) ∧ w'.cell? ⟨w.heap.size, 5, none⟩ = some (.int .u64 pn) ∧ w'.cell? ⟨w.heap.size, 6, none⟩ = some (.int .i64 P)) (by kernel_rfl) ?_
  change wpAnyH _ _ _ _ _ _ _ _ (World.drew _)
  have hS : (fun w' : World => w'.cell? ⟨w.heap.size, 0, none⟩ = some (.bool false) ∧ w'.cell? ⟨w.heap.size, 1, none⟩ = some (.int .i64 ty) ∧ w'.cell? ⟨w.heap.size, 2, none⟩ = some (.int .u32 ve) ∧ w'.cell? ⟨w.heap.size, 3, none⟩ = some (.slice da 8 dc) ∧ w'.cell? ⟨w.heap.size, 4, none⟩ = some (.slice sa sn sc) ∧ w'.cell? ⟨w.heap.size, 5, none⟩ = some (.int .u64 pn) ∧ w'.cell? ⟨w.heap.size, 6, none⟩ = some (.int .i64 P)) w1.drew := ⟨g0, g1, g2, g3, g4, g5, g6⟩
  refine wpAnyH_take (i := 0) (v := ?_) rfl (by kernel_rfl) (by kernel_rfl) (by kernel_rfl) (fun _ _ _ h => h) (Or.inl ⟨by kernel_rfl, ?_⟩) hS ?_
  rotate_left
  · intro wz ⟨_, _, _, _, _, _, _⟩; go_simp; try with_reducible rfl
  refine wpAnyH_take (i := 1) (v := ?_) rfl (by kernel_rfl) (by kernel_rfl) (by kernel_rfl) (fun _ _ _ h => h) (Or.inl ⟨by kernel_rfl, ?_⟩) hS ?_
  rotate_left
  · intro wz ⟨_, _, _, _, _, _, _⟩; go_simp; try with_reducible rfl
  refine wpAnyH_take (i := 2) (v := ?_) rfl (by kernel_rfl) (by kernel_rfl) (by kernel_rfl) (fun _ _ _ h => h) (Or.inl ⟨by kernel_rfl, ?_⟩) hS ?_
  rotate_left
  · intro wz ⟨_, _, _, _, _, _, _⟩; go_simp; try with_reducible rfl
  refine wpAnyH_take (i := 3) (v := ?_) rfl (by kernel_rfl) (by kernel_rfl) (by kernel_rfl) (fun _ _ _ h => h) (Or.inl ⟨by kernel_rfl, ?_⟩) hS ?_
  rotate_left
  · intro wz ⟨_, _, _, _, _, _, _⟩; go_simp; try with_reducible rfl
  refine wpAnyH_take (i := 4) (v := ?_) rfl (by kernel_rfl) (by kernel_rfl) (by kernel_rfl) (fun _ _ _ h => h) (Or.inl ⟨by kernel_rfl, ?_⟩) hS ?_
  rotate_left
  · intro wz ⟨_, _, _, _, _, _, _⟩; go_simp; try with_reducible rfl
  refine wpAnyH_take (i := 5) (v := ?_) rfl (by kernel_rfl) (by kernel_rfl) (by kernel_rfl) (fun _ _ _ h => h) (Or.inl ⟨by kernel_rfl, ?_⟩) hS ?_
  rotate_left
  · intro wz ⟨_, _, _, _, _, _, _⟩; go_simp; try with_reducible rfl
  refine wpAnyH_take (i := 8) (v := ?_) rfl (by kernel_rfl) (by kernel_rfl) (by kernel_rfl) (fun _ _ _ h => h) (Or.inl ⟨by kernel_rfl, ?_⟩) hS ?_
  rotate_left
  · intro wz ⟨_, _, _, _, _, _, _⟩; go_simp; try with_reducible rfl
  refine wpAnyH_take (i := 9) (v := ?_) rfl (by kernel_rfl) (by kernel_rfl) (by kernel_rfl) (fun _ _ _ h => h) (Or.inl ⟨by kernel_rfl, ?_⟩) hS ?_
  rotate_left
  · intro wz ⟨_, _, _, _, _, _, _⟩; go_simp; try with_reducible rfl
  clear g0 g1 g2 g3 g4 g5 g6 hS
  have HBd : Hid (Below (w.heap.size + 1) w1 (w1.drew.alloc (.cells #[.int .u8 (bits .or .u8 64 ((P : Int) - 1))] 5 (0, 0)))) := Lib.hid (HB1.out.drew.alloc (by have := HB1.out.size; show _ ≤ w1.heap.size; omega) _)
  have HOd : Hid (Bo (w.heap.size + 1) (w1.drew.alloc (.cells #[.int .u8 (bits .or .u8 64 ((P : Int) - 1))] 5 (0, 0))) none 0 0 []) := Lib.hid (HO1.out.keep (((Keeps.refl (fun _ => False) w1).drew).alloc _) (fun _ _ h => h))
  have HHd := Lib.hid ((Below.keeps HBd.out).blk HH1.out (by omega))
  obtain ⟨⟨g0, g1, g2, g3, g4, g5, g6⟩, _⟩ := hd_cells HHd.out
  refine held_do (i := 6) (.slice (some ⟨w1.heap.size, 0, none⟩) 1 1) (w1.drew.alloc (.cells #[.int .u8 (bits .or .u8 64 ((P : Int) - 1))] 5 (0, 0))) rfl (by kernel_rfl) (by kernel_rfl) (by kernel_rfl) ⟨g0, g1, g2, g3, g4, g5, g6⟩ ?_
  clear g0 g1 g2 g3 g4 g5 g6
  refine held_own (i := 7) rfl (by kernel_rfl) (by kernel_rfl) (.tmp 67) (.tmp 73) rfl (w.heap.size + 1) none 0 0 [] (by kernel_rfl) HOd.out (some ⟨w1.heap.size, 0, none⟩) 1 1 [byt (64 + P - 1)] (by kernel_rfl) (By.new w1.drew [byt (64 + P - 1)] #[.int .u8 (bits .or .u8 64 ((P : Int) - 1))] 5 (by simp) (by rw [first3 P (by omega) (by omega)]; rfl)) (by omega) (by have := HBd.out.size; omega) ?_
  intro ax cx wx hox hkx
  have HOx := Lib.hid hox
  have HBx := Lib.hid (Keeps.mine_below HBd.out hkx (by have := HBd.out.size; omega) (Nat.le_refl _))
  clear hox hkx
  have HHx := Lib.hid ((Below.keeps HBx.out).blk HH1.out (by omega))
  obtain ⟨⟨g0, g1, g2, g3, g4, g5, g6⟩, _⟩ := hd_cells HHx.out
  have hS : (fun w' : World => w'.cell? ⟨w.heap.size, 0, none⟩ = some (.bool false) ∧ w'.cell? ⟨w.heap.size, 1, none⟩ = some (.int .i64 ty) ∧ w'.cell? ⟨w.heap.size, 2, none⟩ = some (.int .u32 ve) ∧ w'.cell? ⟨w.heap.size, 3, none⟩ = some (.slice da 8 dc) ∧ w'.cell? ⟨w.heap.size, 4, none⟩ = some (.slice sa sn sc) ∧ w'.cell? ⟨w.heap.size, 5, none⟩ = some (.int .u64 pn) ∧ w'.cell? ⟨w.heap.size, 6, none⟩ = some (.int .i64 P)) wx := ⟨g0, g1, g2, g3, g4, g5, g6⟩
  refine ⟨hS, ?_⟩
  clear g0 g1 g2 g3 g4 g5 g6 hS
  refine held_own (i := 10) rfl (by kernel_rfl) (by kernel_rfl) (.tmp 74) (.tmp 76) rfl (w.heap.size + 1) ax (0 + 1) cx ([] ++ [byt (64 + P - 1)]) (by kernel_rfl) HOx.out da 8 dc dx (by kernel_rfl) (HDX.out wx (HK1.out.trans (HBx.out.mono (by omega)))) (by omega) (by have := HBx.out.size; omega) ?_
  intro a2 c2 w2 ho2 hk2
  have HO2 := Lib.hid ho2
  have HB2 := Lib.hid (Keeps.mine_below HBx.out hk2 (by have := HBx.out.size; omega) (Nat.le_refl _))
  clear ho2 hk2
  have HH2 := Lib.hid ((Below.keeps HB2.out).blk HH1.out (by omega))
  obtain ⟨⟨g0, g1, g2, g3, g4, g5, g6⟩, _⟩ := hd_cells HH2.out
  have hS : (fun w' : World => w'.cell? ⟨w.heap.size, 0, none⟩ = some (.bool false) ∧ w'.cell? ⟨w.heap.size, 1, none⟩ = some (.int .i64 ty) ∧ w'.cell? ⟨w.heap.size, 2, none⟩ = some (.int .u32 ve) ∧ w'.cell? ⟨w.heap.size, 3, none⟩ = some (.slice da 8 dc) ∧ w'.cell? ⟨w.heap.size, 4, none⟩ = some (.slice sa sn sc) ∧ w'.cell? ⟨w.heap.size, 5, none⟩ = some (.int .u64 pn) ∧ w'.cell? ⟨w.heap.size, 6, none⟩ = some (.int .i64 P)) w2 := ⟨g0, g1, g2, g3, g4, g5, g6⟩
  refine ⟨hS, ?_⟩
  refine wpAnyH_take (i := 11) (v := ?_) rfl (by kernel_rfl) (by kernel_rfl) (by kernel_rfl) (fun _ _ _ h => h) (Or.inl ⟨by kernel_rfl, ?_⟩) hS ?_
  rotate_left
  · intro wz ⟨_, _, _, _, _, _, _⟩; go_simp; try with_reducible rfl
  refine wpAnyH_done (by kernel_rfl) ?_ _
  refine NoPanic.normal ?_
  clear hS
  have hP4 : P ≤ 4 := by omega
  have hcP : cnt (P : Int) = P := by unfold cnt pos; omega
  have HCP := Lib.hid hcP
  clear hcP
  have HH2 := Lib.hid ((Below.keeps HB2.out).blk HH1.out (by omega))
  obtain ⟨⟨g0, g1, g2, g3, g4, g5, g6⟩, _⟩ := hd_cells HH2.out
  go_wp2_with fail
  refine (big_any a2 ((0 + 1 + 8)) c2 (([] ++ [byt (64 + P - 1)] ++ dx)) pn (P : Int) w2 HO2.out.by (by omega) (by omega) (by omega)).mono ?_
  rintro e w3 ⟨a3, c3, rfl, ho3, hk3⟩
  rw [HCP.out] at ho3 ⊢
  have HO3 := Lib.hid (ho3.mono (by have := HB2.out.size; omega : w.heap.size + 1 ≤ w2.heap.size))
  have HB3 := Lib.hid (HB2.out.trans (hk3.mono (by have := HB2.out.size; omega)))
  clear ho3 hk3 g0 g1 g2 g3 g4 g5 g6
  have HLEN : Hid ((pktS dx pn P ys).length = ((0 + 1 + 8) + P) + m) := Lib.hid (by simp [pktS, bigD_length, HDN.out, ← HYL.out]; omega)
  go_wp2_with (at_builtin; refine halt ?_)
  refine Halted.go (wpList_own _ rfl _ _ rfl (w.heap.size + 1) a3 (((0 + 1 + 8) + P)) c3 ((([] ++ [byt (64 + P - 1)] ++ dx) ++ bigD pn P)) rfl HO3.out a m cap ys rfl (HYX.out _ (HK1.out.trans (HB3.out.mono (by omega)))) (by omega) (by have := HB3.out.size; omega) ?_)
  intro a4 c4 w4 ho4 hk4
  have HO4 := Lib.hid ho4
  have HB4 := Lib.hid (Keeps.mine_below HB3.out hk4 (by have := HB3.out.size; omega) (Nat.le_refl _))
  clear ho4 hk4
  by_cases hbig : ((0 + 1 + 8) + P) + m ≤ 1200
  · have HG := wr_good (lg := false) (ty := ty) (ve := ve) (dx := dx) (sx := sx) (pn := pn) (pl := (P : Int)) (ys := ys) (by rw [HOK.out, decide_eq_true_eq]; have := HLEN.out; omega)
    have HG2 := Lib.hid HG
    clear HG
    have hbI : (((((0 + 1 + 8) + P) + m : Nat)) : Int) ≤ 1200 := by omega
    have hbI2 : ¬ (1200 : Int) < (((((0 + 1 + 8) + P) + m : Nat)) : Int) := by omega
    go_wp2_with fail
    go_returns
    rw [HG2.out.1, HG2.out.2]
    refine ⟨a4, ((0 + 1 + 8) + P) + m, c4, rfl, ?_, HK1.out.trans (HB4.out.mono (by omega))⟩
    have h := HO4.out.mono (show w.heap.size ≤ w.heap.size + 1 by omega)
    have e : ((([] ++ [byt (64 + P - 1)] ++ dx) ++ bigD pn P) ++ ys) = pkE false ty ve dx sx pn (P : Int).toNat ys := by
      show _ = pktS dx pn (P : Int).toNat ys
      rw [Int.toNat_natCast]
      simp [pktS]
    rwa [e] at h
  · have HG := wr_bad (lg := false) (ty := ty) (ve := ve) (dx := dx) (sx := sx) (pn := pn) (pl := (P : Int)) (ys := ys) (by rw [HOK.out, decide_eq_false_iff_not]; have := HLEN.out; omega)
    have HG2 := Lib.hid HG
    clear HG
    have hbI : (1200 : Int) < (((((0 + 1 + 8) + P) + m : Nat)) : Int) := by omega
    go_wp2_with fail
    go_returns
    rw [HG2.out.1, HG2.out.2]
    exact ⟨none, 0, 0, rfl, Bo.nil _ _, HK1.out.trans (HB4.out.mono (by omega))⟩

end Go.Proofs.Ytaokhgpidifedaa
