/- The chapter's example: known. -/
import Derived.Test.YticdjfmebmblaaaHufN
import Derived.Lib.SlBytesConst
namespace Go.Proofs.Yticdjfmebmblaaa
open Go.RowKit Go.Deep

def exB : List UInt8 := [241, 227, 194, 229, 242, 58, 107, 160, 171, 144, 244, 255]
theorem conv_ex (w : World) (cs : Array Value) (g : Nat) (hg : g = w.heap.size) : (convert 22 22 (.slice (some ⟨g, 0, none⟩) 12 12)).run Try.prog (w.alloc (.cells cs 5 (0, 0))) = .ok (.slice (some ⟨g, 0, none⟩) 12 12) (w.alloc (.cells cs 5 (cs.size, cs.size + 1))) := by
  subst hg
  exact Lib.run_convert_bytes_const w 22 5 cs 12 12 Try.underlying22 Try.underlying5
theorem upon_conv {P : Program} {o : Oper} {a : Act} {K : Act → World → Prop} {Q : Exit → Act → World → Prop} {src dst : TypeId} {v u : Value} {w w' : World} (h : (convert src dst v).run P w = .ok u w') (hk : K (a.put o.dst u) w') :
    o.upon P a K Q (((convert src dst v).run P w).andThen fun a w' => .ok (.value a) w') := by rw [h]; exact hk
theorem By.mark (w : World) (xs : List UInt8) (vs : Array Value) (t : TypeId) (fr : Nat × Nat) (h : xs.length ≤ 1000) (hv : vs = (Bs xs).toArray) : By (w.alloc (.cells vs t fr)) (some ⟨w.heap.size, 0, none⟩) xs.length xs.length xs := by
  subst hv
  refine ⟨rfl, Nat.le_refl _, by unfold maxLen; omega, by simp [Bs], .inr ⟨w.heap.size, 0, rfl, by simp, fun j u hj => ?_⟩⟩
  rw [Nat.zero_add, World.cell?_alloc_mark]
  simpa using hj

theorem ex_dec : decN exB = ([119, 119, 119, 46, 101, 120, 97, 109, 112, 108, 101, 46, 99, 111, 109], 0) := by decide +kernel
theorem ex_dec0 : decN [0] = ([], 22) := by decide +kernel
theorem ex_code : codeN 97 = 3 ∧ lenN 97 = 5 := by decide +kernel
theorem ex_enc : encN [97] = [31] ∧ sizeN [97] = 1 := by decide +kernel
theorem ex_size : sizeN [51, 48, 50] = 2 := by decide +kernel

set_option maxRecDepth 100000 in
set_option maxHeartbeats 3200000 in
theorem known_any (w : World) : Calls Try.prog 9 #[] w fun e w' => e = .returned (.bool true) ∧ Below w.heap.size w w' := by
  go_enter Try.func9, Try.ntmps9
  go_wp2_with fail
  refine upon_conv (conv_ex w _ _ rfl) ?_
  have hy := By.mark w exB #[.int .u8 241, .int .u8 227, .int .u8 194, .int .u8 229, .int .u8 242, .int .u8 58, .int .u8 107, .int .u8 160, .int .u8 171, .int .u8 144, .int .u8 244, .int .u8 255] 5 (12, 13) (by decide) rfl
  have HY := Lib.hid hy
  have HK := Lib.hid (below_new (Below.refl w.heap.size w) (.cells #[.int .u8 241, .int .u8 227, .int .u8 194, .int .u8 229, .int .u8 242, .int .u8 58, .int .u8 107, .int .u8 160, .int .u8 171, .int .u8 144, .int .u8 244, .int .u8 255] 5 (12, 13)))
  have HSZ : Hid ((w.alloc (.cells #[.int .u8 241, .int .u8 227, .int .u8 194, .int .u8 229, .int .u8 242, .int .u8 58, .int .u8 107, .int .u8 160, .int .u8 171, .int .u8 144, .int .u8 244, .int .u8 255] 5 (12, 13))).heap.size = w.heap.size + 1) := by show _ = _; simp
  clear hy
  go_wp2_with fail
  refine (decode_any (some ⟨w.heap.size, 0, none⟩) 12 12 exB _ HY.out (by omega) (fun b hb => by cases hb; rw [HSZ.out]; show w.heap.size < _; omega)).mono ?_
  rintro e w1 ⟨rfl, hk1⟩
  have HK1 := Lib.hid (HK.out.trans (hk1.mono HK.out.size))
  clear hk1 HY HK HSZ
  rw [ex_dec]
  unfold ByteStr
  have hy2 := By.mark w1 [0] #[.int .u8 0] 5 (0, 0) (by decide) rfl
  have HY2 := Lib.hid hy2
  have HK2 := Lib.hid (below_new HK1.out (.cells #[.int .u8 0] 5 (0, 0)))
  have HS2 : Hid ((w1.alloc (.cells #[.int .u8 0] 5 (0, 0))).heap.size = w1.heap.size + 1) := by show _ = _; simp
  clear hy2 HK1
  go_wp2_with fail
  refine (decode_any (some ⟨w1.heap.size, 0, none⟩) 1 1 [0] _ HY2.out (by omega) (fun b hb => by cases hb; rw [HS2.out]; show w1.heap.size < _; omega)).mono ?_
  rintro e w2 ⟨rfl, hk2⟩
  have HK3 := Lib.hid (HK2.out.trans (hk2.mono HK2.out.size))
  clear hk2 HY2 HS2 HK2
  rw [ex_dec0]
  unfold ByteStr
  go_wp2_with fail
  refine (bits_any 97 (by omega) _).mono ?_
  rintro e w3 ⟨rfl, hk3⟩
  have HK4 := Lib.hid (HK3.out.trans (hk3.mono HK3.out.size))
  clear hk3 HK3
  rw [ex_code.1, ex_code.2]
  go_wp2_with fail
  refine (encode_any none 0 0 [] ⟨#[97]⟩ _ (By.nil _) (by omega) (by decide)).mono ?_
  rintro e w4 ⟨a4, c4, rfl, ho4, hk4⟩
  have HK5 := Lib.hid (HK4.out.trans (hk4.mono HK4.out.size))
  have ho5 : By w4 a4 1 c4 [31] := by
    have := ho4.by
    simp only [List.nil_append] at this
    rw [show encN (⟨#[97]⟩ : ByteArray).data.toList = [31] from ex_enc.1, show sizeN (⟨#[97]⟩ : ByteArray).data.toList = 1 from ex_enc.2] at this
    exact this
  have HO5 := Lib.hid ho5
  have he : sizeN (⟨#[97]⟩ : ByteArray).data.toList = 1 := ex_enc.2
  rw [he]
  clear hk4 ho4 ho5 HK4 he
  go_wp2_with fail
  refine By.upon HO5.out ?_
  go_wp2_with fail
  refine (len_any ⟨#[51, 48, 50]⟩ _ (by decide)).mono ?_
  rintro e w5 ⟨rfl, hk5⟩
  have HK6 := Lib.hid (HK5.out.trans (hk5.mono HK5.out.size))
  rw [show sizeN (⟨#[51, 48, 50]⟩ : ByteArray).data.toList = 2 from ex_size]
  clear hk5 HK5
  go_wp2_with fail
  go_returns
  exact ⟨rfl, HK6.out⟩

end Go.Proofs.Yticdjfmebmblaaa
