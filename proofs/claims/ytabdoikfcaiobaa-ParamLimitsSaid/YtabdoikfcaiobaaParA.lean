/- Parameters in plain Lean: which may be written, and as what. -/
import Derived.Test.YtabdoikfcaiobaaMp
namespace Go.Proofs.Ytabdoikfcaiobaa
open Go.RowKit Go.Deep Go.Maps

def idN (L : List Int) (x : Int) : Int := if x ∈ L then 1 else 0
theorem idN_bd (L : List Int) (x : Int) : 0 ≤ idN L x ∧ idN L x ≤ 1 := by unfold idN; split <;> omega
theorem idN_add (L : List Int) (x y : Int) (h0 : idN L x = 0) : (if y = x then idN L x + 1 else idN L y) = idN (L ++ [x]) y := by
  rw [h0]
  unfold idN
  by_cases e : y = x
  · subst e; simp
  · simp [e]
theorem idN_not {L : List Int} {x : Int} (h0 : idN L x = 0) : x ∉ L := by
  unfold idN at h0
  intro hm
  rw [if_pos hm] at h0
  omega
theorem idN_in {L : List Int} {x : Int} (h0 : idN L x ≠ 0) : x ∈ L := by
  unfold idN at h0
  by_cases hm : x ∈ L
  · exact hm
  · rw [if_neg hm] at h0; exact absurd rfl h0
theorem nodup_add {L : List Int} {x : Int} (h : L.Nodup) (hx : x ∉ L) : (L ++ [x]).Nodup := by
  rw [List.nodup_append]
  refine ⟨h, by simp, fun a ha b hb => ?_⟩
  simp at hb
  subst hb
  exact fun e => hx (e ▸ ha)

/-- The numbers of parameters. -/
def idL (l : List Fr) : List Int := l.map (·.t)
theorem idL_length (l : List Fr) : (idL l).length = l.length := by simp [idL]
theorem idL_take (l : List Fr) (i : Nat) (hi : i < l.length) : idL (l.take (i + 1)) = idL (l.take i) ++ [l[i].t] := by
  unfold idL
  rw [List.take_succ_eq_append_getElem hi, List.map_append]
  rfl
def paOK (l : List Fr) : Bool := decide (l.length ≤ 32) && decide ((idL l).Nodup) && frsOK l
def paR (l : List Fr) : List UInt8 := if paOK l then frsE l else []
def paErr (l : List Fr) : Int := if paOK l then 0 else 41

theorem pa_bad {l : List Fr} (h : paOK l = false) : paR l = [] ∧ paErr l = 41 := by unfold paR paErr; rw [h]; exact ⟨rfl, rfl⟩
theorem pa_good {l : List Fr} (h : paOK l = true) : paR l = frsE l ∧ paErr l = 0 := by unfold paR paErr; rw [h]; exact ⟨rfl, rfl⟩
theorem pa_many {l : List Fr} (h : 32 < l.length) : paOK l = false := by unfold paOK; rw [decide_eq_false (by omega)]; rfl
theorem pa_twice {l : List Fr} {i : Nat} (hi : i < l.length) (h : l[i].t ∈ idL (l.take i)) : paOK l = false := by
  have hn : ¬ (idL l).Nodup := by
    intro hd
    have e : idL l = idL (l.take i) ++ (l[i].t :: idL (l.drop (i + 1))) := by
      unfold idL
      rw [← List.map_cons, ← List.map_append]
      congr 1
      rw [← List.drop_eq_getElem_cons hi, List.take_append_drop]
    rw [e, List.nodup_append] at hd
    exact hd.2.2 _ h _ List.mem_cons_self rfl
  unfold paOK
  rw [decide_eq_false hn]
  simp
theorem pa_frame {l : List Fr} {i : Nat} (hi : i < l.length) (h : frOK l[i] = false) : paOK l = false := by
  unfold paOK
  rw [frsOK_not hi h]
  simp
theorem pa_all {l : List Fr} (h1 : l.length ≤ 32) (h2 : (idL l).Nodup) (h3 : frsOK l = true) : paOK l = true := by
  unfold paOK
  simp [h1, h2, h3]

theorem Bo.alloc' {base : Nat} {w : World} {a : Option Addr} {n cap : Nat} {xs : List UInt8} (h : Bo base w a n cap xs) (o : Obj) : Bo base (w.alloc o) a n cap xs := ⟨h.1, h.2.alloc o⟩

theorem Mp.as {w : World} {b n : Nat} {f g : Int → Int} (h : Mp w b n f) (e : ∀ x, f x = g x) : Mp w b n g := by
  obtain rfl : f = g := funext e
  exact h

end Go.Proofs.Ytabdoikfcaiobaa
