/-
  No cell of these rows narrows 'for every input' (looked for: loops, veiled, ifaces, maps, wideKeys, modest, calm, conditions, laid).
  DERIVED. THE GIVEN ROWS OF THIS SEAT. 3 by the template 'for every input the law returns true; each argument reads behind the call as it read before'; 0 by the template 'total and deterministic' (their statements: YtabdoikfcaiobaaTotals.lean).
  GIVEN WITH THE SEED: the statements are not yours to turn. If you find one false, say at which input.
  Laid BY PROGRAM, IN A SANDBOX (cutbox-rows.mjs): the forced cells as the released guide's own fill.sh prints them over the translation 4d1a7e10d28b4a0f… (all of the seat's roots in one cut). By AI agents, Wed Nov 11 2026. No macro, syntax, notation, axiom, sorry.
-/
import Derived.Test.YtabdoikfcaiobaaChecked
import GoSem.Claim
import GoSem.ClaimJoined
import GoSem.ClaimMapViews
import Derived.JoinedTies
import Derived.KernelRfl
namespace Go.Proofs.Ytabdoikfcaiobaa
/- THE CELL 'sum', in the pinned program and in every row, IS THE sha256 OF THE DUMP (.gsa) THAT YtabdoikfcaiobaaProg.lean LOADS. Nothing in Lean hashes anything: it is a label: what it is worth is what the hold of that sum in a sandbox is worth. -/
noncomputable def Try.pinned : Pinned := { name := "ytabdoikfcaiobaa", sum := "4d1a7e10d28b4a0f035dde8e672dd8c415b7a40d71ad486463a8be24f7340c2d", checked := Try.checked }
namespace Rows
def none {H : Type} : Left H := { results := [], args := [] }

/-- 'bifoldlaw20.ParamBack': WHATEVER THE INPUT: true; the input reads as it did. -/
def paramBackSpec : ChangeSpec := { name := "paramBack", fn := fun _ => fun
  | [d] => { results := [.lit (.bool true)], args := [d] }
  | _ => none }
def paramBackRow : OpenClaim := { program := "ytabdoikfcaiobaa", sum := "4d1a7e10d28b4a0f035dde8e672dd8c415b7a40d71ad486463a8be24f7340c2d", func := "bifold/bifoldlaw20.ParamBack", spec := "paramBack", apart := false }
def ParamBackSaid : Prop := paramBackRow.holds Try.pinned (OpenSpec.ofChange paramBackSpec)

/-- ITS FALSE NEIGHBOUR: 'it returns false'. Refute it at one input. -/
def paramBackWrong : ChangeSpec := { name := "paramBack", fn := fun _ => fun
  | [d] => { results := [.lit (.bool false)], args := [d] }
  | _ => none }
def ParamBackWrongFalsely : Prop := paramBackRow.holds Try.pinned (OpenSpec.ofChange paramBackWrong)

/-- 'bifoldlaw20.ParamReads': WHATEVER THE INPUT: true; the input reads as it did. -/
def paramReadsSpec : ChangeSpec := { name := "paramReads", fn := fun _ => fun
  | [d1, d2, d3, d4, d5] => { results := [.lit (.bool true)], args := [d1, d2, d3, d4, d5] }
  | _ => none }
def paramReadsRow : OpenClaim := { program := "ytabdoikfcaiobaa", sum := "4d1a7e10d28b4a0f035dde8e672dd8c415b7a40d71ad486463a8be24f7340c2d", func := "bifold/bifoldlaw20.ParamReads", spec := "paramReads", apart := false }
def ParamReadsSaid : Prop := paramReadsRow.holds Try.pinned (OpenSpec.ofChange paramReadsSpec)

/-- ITS FALSE NEIGHBOUR: 'it returns false'. Refute it at one input. -/
def paramReadsWrong : ChangeSpec := { name := "paramReads", fn := fun _ => fun
  | [d1, d2, d3, d4, d5] => { results := [.lit (.bool false)], args := [d1, d2, d3, d4, d5] }
  | _ => none }
def ParamReadsWrongFalsely : Prop := paramReadsRow.holds Try.pinned (OpenSpec.ofChange paramReadsWrong)

/-- 'bifoldlaw20.ParamLimits': WHATEVER THE INPUT: true; the input reads as it did. -/
def paramLimitsSpec : ChangeSpec := { name := "paramLimits", fn := fun _ => fun
  | [d1, d2, d3, d4] => { results := [.lit (.bool true)], args := [d1, d2, d3, d4] }
  | _ => none }
def paramLimitsRow : OpenClaim := { program := "ytabdoikfcaiobaa", sum := "4d1a7e10d28b4a0f035dde8e672dd8c415b7a40d71ad486463a8be24f7340c2d", func := "bifold/bifoldlaw20.ParamLimits", spec := "paramLimits", apart := false }
def ParamLimitsSaid : Prop := paramLimitsRow.holds Try.pinned (OpenSpec.ofChange paramLimitsSpec)

/-- ITS FALSE NEIGHBOUR: 'it returns false'. Refute it at one input. -/
def paramLimitsWrong : ChangeSpec := { name := "paramLimits", fn := fun _ => fun
  | [d1, d2, d3, d4] => { results := [.lit (.bool false)], args := [d1, d2, d3, d4] }
  | _ => none }
def ParamLimitsWrongFalsely : Prop := paramLimitsRow.holds Try.pinned (OpenSpec.ofChange paramLimitsWrong)

/- THE SECOND FORM. 'bulk': how many values and letters a reading holds, each counted each time it is reached (what is shared counts as often as it is met; a slice's spare places count too). A statement '..UptoSaid' is the law's where the arguments, and the package variables that the reading takes, are together of bulk at most 1048576: NARROWER than '..Said'. Prove '..Said' where nothing that the law and all that it calls make is longer than what came in: it says more and counts as full. Else prove '..UptoSaid'. A law counts once. -/
mutual
def uptoBulk {H : Type} : DataW H → Nat
  | .lit (.string bytes) => bytes.length + 1
  | .lit _ => 1
  | .nil => 1
  | .ptr d => uptoBulk d + 1
  | .slice elems spare => uptoBulkAll elems + uptoBulkAll spare + 1
  | .agg parts => uptoBulkAll parts + 1
  | .iface _ d => uptoBulk d + 1
  | .map entries => uptoBulkEntries entries + 1
  | .held _ => 1
def uptoBulkAll {H : Type} : List (DataW H) → Nat
  | [] => 0
  | d :: r => uptoBulk d + uptoBulkAll r
def uptoBulkEntries {H : Type} : List (Lit × DataW H) → Nat
  | [] => 0
  | x :: r => uptoBulkEntry x + uptoBulkEntries r
def uptoBulkEntry {H : Type} : Lit × DataW H → Nat
  | (.string bytes, d) => bytes.length + uptoBulk d + 1
  | (_, d) => uptoBulk d + 1
 end
def uptoSmall : (H : Type) → List (DataW H) → Bool := fun _ ds => decide (uptoBulkAll ds ≤ 1048576)
def OpenSpec.upto (s : _root_.Go.ChangeSpec) : _root_.Go.OpenSpec := { _root_.Go.OpenSpec.ofChange s with cond := some uptoSmall }

/-- 'bifoldlaw20.ParamBack', WHERE WHAT IT READS IS OF BULK AT MOST 1048576: true; the input reads as it did. -/
def paramBackUptoRow : OpenClaim := { program := "ytabdoikfcaiobaa", sum := "4d1a7e10d28b4a0f035dde8e672dd8c415b7a40d71ad486463a8be24f7340c2d", func := "bifold/bifoldlaw20.ParamBack", spec := "paramBack", apart := false, narrowed := true }
def ParamBackUptoSaid : Prop := paramBackUptoRow.holds Try.pinned (OpenSpec.upto paramBackSpec)

/-- 'bifoldlaw20.ParamReads', WHERE WHAT IT READS IS OF BULK AT MOST 1048576: true; the input reads as it did. -/
def paramReadsUptoRow : OpenClaim := { program := "ytabdoikfcaiobaa", sum := "4d1a7e10d28b4a0f035dde8e672dd8c415b7a40d71ad486463a8be24f7340c2d", func := "bifold/bifoldlaw20.ParamReads", spec := "paramReads", apart := false, narrowed := true }
def ParamReadsUptoSaid : Prop := paramReadsUptoRow.holds Try.pinned (OpenSpec.upto paramReadsSpec)

/-- 'bifoldlaw20.ParamLimits', WHERE WHAT IT READS IS OF BULK AT MOST 1048576: true; the input reads as it did. -/
def paramLimitsUptoRow : OpenClaim := { program := "ytabdoikfcaiobaa", sum := "4d1a7e10d28b4a0f035dde8e672dd8c415b7a40d71ad486463a8be24f7340c2d", func := "bifold/bifoldlaw20.ParamLimits", spec := "paramLimits", apart := false, narrowed := true }
def ParamLimitsUptoSaid : Prop := paramLimitsUptoRow.holds Try.pinned (OpenSpec.upto paramLimitsSpec)

end Rows
end Go.Proofs.Ytabdoikfcaiobaa
