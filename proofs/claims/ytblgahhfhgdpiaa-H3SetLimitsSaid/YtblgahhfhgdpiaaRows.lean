/-
  No cell of these rows narrows 'for every input' (looked for: loops, veiled, ifaces, maps, wideKeys, modest, calm, conditions, laid).
  DERIVED. THE GIVEN ROWS OF THIS SEAT. 6 by the template 'for every input the law returns true; each argument reads behind the call as it read before'; 0 by the template 'total and deterministic' (their statements: YtblgahhfhgdpiaaTotals.lean).
  GIVEN WITH THE SEED: the statements are not yours to turn. If you find one false, say at which input.
  Laid BY PROGRAM, IN A SANDBOX (cutbox-rows.mjs): the forced cells as the released guide's own fill.sh prints them over the translation 65cc490d4fb94d4b… (all of the seat's roots in one cut). By AI agents, Wed Nov 11 2026. No macro, syntax, notation, axiom, sorry.
-/
import Derived.Test.YtblgahhfhgdpiaaChecked
import GoSem.Claim
import GoSem.ClaimJoined
import GoSem.ClaimMapViews
import Derived.JoinedTies
import Derived.KernelRfl
namespace Go.Proofs.Ytblgahhfhgdpiaa
/- THE CELL 'sum', in the pinned program and in every row, IS THE sha256 OF THE DUMP (.gsa) THAT YtblgahhfhgdpiaaProg.lean LOADS. Nothing in Lean hashes anything: it is a label: what it is worth is what the hold of that sum in a sandbox is worth. -/
noncomputable def Try.pinned : Pinned := { name := "ytblgahhfhgdpiaa", sum := "65cc490d4fb94d4ba349b9c7aa3f55b60c29557087f81bcb8d57f75b385cc233", checked := Try.checked }
namespace Rows
def none {H : Type} : Left H := { results := [], args := [] }

/-- 'bifoldlaw26.H3Back': WHATEVER THE INPUT: true; the input reads as it did. -/
def h3BackSpec : ChangeSpec := { name := "h3Back", fn := fun _ => fun
  | [d1, d2] => { results := [.lit (.bool true)], args := [d1, d2] }
  | _ => none }
def h3BackRow : OpenClaim := { program := "ytblgahhfhgdpiaa", sum := "65cc490d4fb94d4ba349b9c7aa3f55b60c29557087f81bcb8d57f75b385cc233", func := "bifold/bifoldlaw26.H3Back", spec := "h3Back", apart := false }
def H3BackSaid : Prop := h3BackRow.holds Try.pinned (OpenSpec.ofChange h3BackSpec)

/-- ITS FALSE NEIGHBOUR: 'it returns false'. Refute it at one input. -/
def h3BackWrong : ChangeSpec := { name := "h3Back", fn := fun _ => fun
  | [d1, d2] => { results := [.lit (.bool false)], args := [d1, d2] }
  | _ => none }
def H3BackWrongFalsely : Prop := h3BackRow.holds Try.pinned (OpenSpec.ofChange h3BackWrong)

/-- 'bifoldlaw26.H3Reads': WHATEVER THE INPUT: true; the input reads as it did. -/
def h3ReadsSpec : ChangeSpec := { name := "h3Reads", fn := fun _ => fun
  | [d1, d2, d3] => { results := [.lit (.bool true)], args := [d1, d2, d3] }
  | _ => none }
def h3ReadsRow : OpenClaim := { program := "ytblgahhfhgdpiaa", sum := "65cc490d4fb94d4ba349b9c7aa3f55b60c29557087f81bcb8d57f75b385cc233", func := "bifold/bifoldlaw26.H3Reads", spec := "h3Reads", apart := false }
def H3ReadsSaid : Prop := h3ReadsRow.holds Try.pinned (OpenSpec.ofChange h3ReadsSpec)

/-- ITS FALSE NEIGHBOUR: 'it returns false'. Refute it at one input. -/
def h3ReadsWrong : ChangeSpec := { name := "h3Reads", fn := fun _ => fun
  | [d1, d2, d3] => { results := [.lit (.bool false)], args := [d1, d2, d3] }
  | _ => none }
def H3ReadsWrongFalsely : Prop := h3ReadsRow.holds Try.pinned (OpenSpec.ofChange h3ReadsWrong)

/-- 'bifoldlaw26.H3Settings': WHATEVER THE INPUT: true; the input reads as it did. -/
def h3SettingsSpec : ChangeSpec := { name := "h3Settings", fn := fun _ => fun
  | [d] => { results := [.lit (.bool true)], args := [d] }
  | _ => none }
def h3SettingsRow : OpenClaim := { program := "ytblgahhfhgdpiaa", sum := "65cc490d4fb94d4ba349b9c7aa3f55b60c29557087f81bcb8d57f75b385cc233", func := "bifold/bifoldlaw26.H3Settings", spec := "h3Settings", apart := false }
def H3SettingsSaid : Prop := h3SettingsRow.holds Try.pinned (OpenSpec.ofChange h3SettingsSpec)

/-- ITS FALSE NEIGHBOUR: 'it returns false'. Refute it at one input. -/
def h3SettingsWrong : ChangeSpec := { name := "h3Settings", fn := fun _ => fun
  | [d] => { results := [.lit (.bool false)], args := [d] }
  | _ => none }
def H3SettingsWrongFalsely : Prop := h3SettingsRow.holds Try.pinned (OpenSpec.ofChange h3SettingsWrong)

/-- 'bifoldlaw26.H3SetReads': WHATEVER THE INPUT: true; the input reads as it did. -/
def h3SetReadsSpec : ChangeSpec := { name := "h3SetReads", fn := fun _ => fun
  | [d1, d2, d3, d4] => { results := [.lit (.bool true)], args := [d1, d2, d3, d4] }
  | _ => none }
def h3SetReadsRow : OpenClaim := { program := "ytblgahhfhgdpiaa", sum := "65cc490d4fb94d4ba349b9c7aa3f55b60c29557087f81bcb8d57f75b385cc233", func := "bifold/bifoldlaw26.H3SetReads", spec := "h3SetReads", apart := false }
def H3SetReadsSaid : Prop := h3SetReadsRow.holds Try.pinned (OpenSpec.ofChange h3SetReadsSpec)

/-- ITS FALSE NEIGHBOUR: 'it returns false'. Refute it at one input. -/
def h3SetReadsWrong : ChangeSpec := { name := "h3SetReads", fn := fun _ => fun
  | [d1, d2, d3, d4] => { results := [.lit (.bool false)], args := [d1, d2, d3, d4] }
  | _ => none }
def H3SetReadsWrongFalsely : Prop := h3SetReadsRow.holds Try.pinned (OpenSpec.ofChange h3SetReadsWrong)

/-- 'bifoldlaw26.H3Cuts': WHATEVER THE INPUT: true; the input reads as it did. -/
def h3CutsSpec : ChangeSpec := { name := "h3Cuts", fn := fun _ => fun
  | [d1, d2, d3, d4] => { results := [.lit (.bool true)], args := [d1, d2, d3, d4] }
  | _ => none }
def h3CutsRow : OpenClaim := { program := "ytblgahhfhgdpiaa", sum := "65cc490d4fb94d4ba349b9c7aa3f55b60c29557087f81bcb8d57f75b385cc233", func := "bifold/bifoldlaw26.H3Cuts", spec := "h3Cuts", apart := false }
def H3CutsSaid : Prop := h3CutsRow.holds Try.pinned (OpenSpec.ofChange h3CutsSpec)

/-- ITS FALSE NEIGHBOUR: 'it returns false'. Refute it at one input. -/
def h3CutsWrong : ChangeSpec := { name := "h3Cuts", fn := fun _ => fun
  | [d1, d2, d3, d4] => { results := [.lit (.bool false)], args := [d1, d2, d3, d4] }
  | _ => none }
def H3CutsWrongFalsely : Prop := h3CutsRow.holds Try.pinned (OpenSpec.ofChange h3CutsWrong)

/-- 'bifoldlaw26.H3SetLimits': WHATEVER THE INPUT: true; the input reads as it did. -/
def h3SetLimitsSpec : ChangeSpec := { name := "h3SetLimits", fn := fun _ => fun
  | [d1, d2, d3, d4] => { results := [.lit (.bool true)], args := [d1, d2, d3, d4] }
  | _ => none }
def h3SetLimitsRow : OpenClaim := { program := "ytblgahhfhgdpiaa", sum := "65cc490d4fb94d4ba349b9c7aa3f55b60c29557087f81bcb8d57f75b385cc233", func := "bifold/bifoldlaw26.H3SetLimits", spec := "h3SetLimits", apart := false }
def H3SetLimitsSaid : Prop := h3SetLimitsRow.holds Try.pinned (OpenSpec.ofChange h3SetLimitsSpec)

/-- ITS FALSE NEIGHBOUR: 'it returns false'. Refute it at one input. -/
def h3SetLimitsWrong : ChangeSpec := { name := "h3SetLimits", fn := fun _ => fun
  | [d1, d2, d3, d4] => { results := [.lit (.bool false)], args := [d1, d2, d3, d4] }
  | _ => none }
def H3SetLimitsWrongFalsely : Prop := h3SetLimitsRow.holds Try.pinned (OpenSpec.ofChange h3SetLimitsWrong)

/- THE SECOND FORM. 'bulk': how many values and letters a reading holds, each counted each time it is reached (what is shared counts as often as it is met; a slice's spare places count too). A statement '..UptoSaid' is the law's where the arguments, and the package variables that the reading takes, are together of bulk at most 1048576: NARROWER than '..Said'. Prove '..Said' where nothing that the law and all that it calls make is longer than what came in: it says more and counts as full. Else prove '..UptoSaid'. A law counts once. -/
mutual
def uptoBulk {H : Type} : DataW H → Nat
  | .lit (.string bytes) => bytes.length + 1
  | .lit _ => 1
  | .nil => 1
  | .ptr d => uptoBulk d + 1
  | .slice elems spare => uptoBulkAll elems + uptoBulkAll spare + 1
  | .agg parts => uptoBulkAll parts + 1
  | .iface _ d => uptoBulk d + 1
  | .map entries => uptoBulkEntries entries + 1
  | .held _ => 1
def uptoBulkAll {H : Type} : List (DataW H) → Nat
  | [] => 0
  | d :: r => uptoBulk d + uptoBulkAll r
def uptoBulkEntries {H : Type} : List (Lit × DataW H) → Nat
  | [] => 0
  | x :: r => uptoBulkEntry x + uptoBulkEntries r
def uptoBulkEntry {H : Type} : Lit × DataW H → Nat
  | (.string bytes, d) => bytes.length + uptoBulk d + 1
  | (_, d) => uptoBulk d + 1
 end
def uptoSmall : (H : Type) → List (DataW H) → Bool := fun _ ds => decide (uptoBulkAll ds ≤ 1048576)
def OpenSpec.upto (s : _root_.Go.ChangeSpec) : _root_.Go.OpenSpec := { _root_.Go.OpenSpec.ofChange s with cond := some uptoSmall }

/-- 'bifoldlaw26.H3Back', WHERE WHAT IT READS IS OF BULK AT MOST 1048576: true; the input reads as it did. -/
def h3BackUptoRow : OpenClaim := { program := "ytblgahhfhgdpiaa", sum := "65cc490d4fb94d4ba349b9c7aa3f55b60c29557087f81bcb8d57f75b385cc233", func := "bifold/bifoldlaw26.H3Back", spec := "h3Back", apart := false, narrowed := true }
def H3BackUptoSaid : Prop := h3BackUptoRow.holds Try.pinned (OpenSpec.upto h3BackSpec)

/-- 'bifoldlaw26.H3Reads', WHERE WHAT IT READS IS OF BULK AT MOST 1048576: true; the input reads as it did. -/
def h3ReadsUptoRow : OpenClaim := { program := "ytblgahhfhgdpiaa", sum := "65cc490d4fb94d4ba349b9c7aa3f55b60c29557087f81bcb8d57f75b385cc233", func := "bifold/bifoldlaw26.H3Reads", spec := "h3Reads", apart := false, narrowed := true }
def H3ReadsUptoSaid : Prop := h3ReadsUptoRow.holds Try.pinned (OpenSpec.upto h3ReadsSpec)

/-- 'bifoldlaw26.H3Settings', WHERE WHAT IT READS IS OF BULK AT MOST 1048576: true; the input reads as it did. -/
def h3SettingsUptoRow : OpenClaim := { program := "ytblgahhfhgdpiaa", sum := "65cc490d4fb94d4ba349b9c7aa3f55b60c29557087f81bcb8d57f75b385cc233", func := "bifold/bifoldlaw26.H3Settings", spec := "h3Settings", apart := false, narrowed := true }
def H3SettingsUptoSaid : Prop := h3SettingsUptoRow.holds Try.pinned (OpenSpec.upto h3SettingsSpec)

/-- 'bifoldlaw26.H3SetReads', WHERE WHAT IT READS IS OF BULK AT MOST 1048576: true; the input reads as it did. -/
def h3SetReadsUptoRow : OpenClaim := { program := "ytblgahhfhgdpiaa", sum := "65cc490d4fb94d4ba349b9c7aa3f55b60c29557087f81bcb8d57f75b385cc233", func := "bifold/bifoldlaw26.H3SetReads", spec := "h3SetReads", apart := false, narrowed := true }
def H3SetReadsUptoSaid : Prop := h3SetReadsUptoRow.holds Try.pinned (OpenSpec.upto h3SetReadsSpec)

/-- 'bifoldlaw26.H3Cuts', WHERE WHAT IT READS IS OF BULK AT MOST 1048576: true; the input reads as it did. -/
def h3CutsUptoRow : OpenClaim := { program := "ytblgahhfhgdpiaa", sum := "65cc490d4fb94d4ba349b9c7aa3f55b60c29557087f81bcb8d57f75b385cc233", func := "bifold/bifoldlaw26.H3Cuts", spec := "h3Cuts", apart := false, narrowed := true }
def H3CutsUptoSaid : Prop := h3CutsUptoRow.holds Try.pinned (OpenSpec.upto h3CutsSpec)

/-- 'bifoldlaw26.H3SetLimits', WHERE WHAT IT READS IS OF BULK AT MOST 1048576: true; the input reads as it did. -/
def h3SetLimitsUptoRow : OpenClaim := { program := "ytblgahhfhgdpiaa", sum := "65cc490d4fb94d4ba349b9c7aa3f55b60c29557087f81bcb8d57f75b385cc233", func := "bifold/bifoldlaw26.H3SetLimits", spec := "h3SetLimits", apart := false, narrowed := true }
def H3SetLimitsUptoSaid : Prop := h3SetLimitsUptoRow.holds Try.pinned (OpenSpec.upto h3SetLimitsSpec)

end Rows
end Go.Proofs.Ytblgahhfhgdpiaa
