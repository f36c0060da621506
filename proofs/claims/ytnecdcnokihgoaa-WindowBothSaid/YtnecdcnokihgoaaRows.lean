/-
  No cell of these rows narrows 'for every input' (looked for: loops, veiled, ifaces, maps, wideKeys, modest, calm, conditions, laid).
  DERIVED. THE GIVEN ROWS OF THIS SEAT. 5 by the template 'for every input the law returns true; each argument reads behind the call as it read before'; 0 by the template 'total and deterministic' (their statements: YtnecdcnokihgoaaTotals.lean).
  GIVEN WITH THE SEED: the statements are not yours to turn. If you find one false, say at which input.
  Laid BY PROGRAM, IN A SANDBOX (cutbox-rows.mjs): the forced cells as the released guide's own fill.sh prints them over the translation fdbb5d158481455a… (all of the seat's roots in one cut). By AI agents, Wed Nov 11 2026. No macro, syntax, notation, axiom, sorry.
-/
import Derived.Test.YtnecdcnokihgoaaChecked
import GoSem.Claim
import GoSem.ClaimJoined
import GoSem.ClaimMapViews
import Derived.JoinedTies
import Derived.KernelRfl
namespace Go.Proofs.Ytnecdcnokihgoaa
/- THE CELL 'sum', in the pinned program and in every row, IS THE sha256 OF THE DUMP (.gsa) THAT YtnecdcnokihgoaaProg.lean LOADS. Nothing in Lean hashes anything: it is a label: what it is worth is what the hold of that sum in a sandbox is worth. -/
noncomputable def Try.pinned : Pinned := { name := "ytnecdcnokihgoaa", sum := "fdbb5d158481455a6c8d7929b33929c57ab60783186c80f9b90bd1897948f406", checked := Try.checked }
namespace Rows
def none {H : Type} : Left H := { results := [], args := [] }

/-- 'bifoldlaw14.WindowOuts': WHATEVER THE INPUT: true; the input reads as it did. -/
def windowOutsSpec : ChangeSpec := { name := "windowOuts", fn := fun _ => fun
  | [d1, d2] => { results := [.lit (.bool true)], args := [d1, d2] }
  | _ => none }
def windowOutsRow : OpenClaim := { program := "ytnecdcnokihgoaa", sum := "fdbb5d158481455a6c8d7929b33929c57ab60783186c80f9b90bd1897948f406", func := "bifold/bifoldlaw14.WindowOuts", spec := "windowOuts", apart := false }
def WindowOutsSaid : Prop := windowOutsRow.holds Try.pinned (OpenSpec.ofChange windowOutsSpec)

/-- ITS FALSE NEIGHBOUR: 'it returns false'. Refute it at one input. -/
def windowOutsWrong : ChangeSpec := { name := "windowOuts", fn := fun _ => fun
  | [d1, d2] => { results := [.lit (.bool false)], args := [d1, d2] }
  | _ => none }
def WindowOutsWrongFalsely : Prop := windowOutsRow.holds Try.pinned (OpenSpec.ofChange windowOutsWrong)

/-- 'bifoldlaw14.WindowIns': WHATEVER THE INPUT: true; the input reads as it did. -/
def windowInsSpec : ChangeSpec := { name := "windowIns", fn := fun _ => fun
  | [d1, d2] => { results := [.lit (.bool true)], args := [d1, d2] }
  | _ => none }
def windowInsRow : OpenClaim := { program := "ytnecdcnokihgoaa", sum := "fdbb5d158481455a6c8d7929b33929c57ab60783186c80f9b90bd1897948f406", func := "bifold/bifoldlaw14.WindowIns", spec := "windowIns", apart := false }
def WindowInsSaid : Prop := windowInsRow.holds Try.pinned (OpenSpec.ofChange windowInsSpec)

/-- ITS FALSE NEIGHBOUR: 'it returns false'. Refute it at one input. -/
def windowInsWrong : ChangeSpec := { name := "windowIns", fn := fun _ => fun
  | [d1, d2] => { results := [.lit (.bool false)], args := [d1, d2] }
  | _ => none }
def WindowInsWrongFalsely : Prop := windowInsRow.holds Try.pinned (OpenSpec.ofChange windowInsWrong)

/-- 'bifoldlaw14.WindowBoth': WHATEVER THE INPUT: true; the input reads as it did. -/
def windowBothSpec : ChangeSpec := { name := "windowBoth", fn := fun _ => fun
  | [d1, d2] => { results := [.lit (.bool true)], args := [d1, d2] }
  | _ => none }
def windowBothRow : OpenClaim := { program := "ytnecdcnokihgoaa", sum := "fdbb5d158481455a6c8d7929b33929c57ab60783186c80f9b90bd1897948f406", func := "bifold/bifoldlaw14.WindowBoth", spec := "windowBoth", apart := false }
def WindowBothSaid : Prop := windowBothRow.holds Try.pinned (OpenSpec.ofChange windowBothSpec)

/-- ITS FALSE NEIGHBOUR: 'it returns false'. Refute it at one input. -/
def windowBothWrong : ChangeSpec := { name := "windowBoth", fn := fun _ => fun
  | [d1, d2] => { results := [.lit (.bool false)], args := [d1, d2] }
  | _ => none }
def WindowBothWrongFalsely : Prop := windowBothRow.holds Try.pinned (OpenSpec.ofChange windowBothWrong)

/-- 'bifoldlaw14.WindowEdges': WHATEVER THE INPUT: true; the input reads as it did. -/
def windowEdgesSpec : ChangeSpec := { name := "windowEdges", fn := fun _ => fun
  | [d1, d2, d3] => { results := [.lit (.bool true)], args := [d1, d2, d3] }
  | _ => none }
def windowEdgesRow : OpenClaim := { program := "ytnecdcnokihgoaa", sum := "fdbb5d158481455a6c8d7929b33929c57ab60783186c80f9b90bd1897948f406", func := "bifold/bifoldlaw14.WindowEdges", spec := "windowEdges", apart := false }
def WindowEdgesSaid : Prop := windowEdgesRow.holds Try.pinned (OpenSpec.ofChange windowEdgesSpec)

/-- ITS FALSE NEIGHBOUR: 'it returns false'. Refute it at one input. -/
def windowEdgesWrong : ChangeSpec := { name := "windowEdges", fn := fun _ => fun
  | [d1, d2, d3] => { results := [.lit (.bool false)], args := [d1, d2, d3] }
  | _ => none }
def WindowEdgesWrongFalsely : Prop := windowEdgesRow.holds Try.pinned (OpenSpec.ofChange windowEdgesWrong)

/-- 'bifoldlaw14.WindowHalf': WHATEVER THE INPUT: true; the input reads as it did. -/
def windowHalfSpec : ChangeSpec := { name := "windowHalf", fn := fun _ => fun
  | [d1, d2] => { results := [.lit (.bool true)], args := [d1, d2] }
  | _ => none }
def windowHalfRow : OpenClaim := { program := "ytnecdcnokihgoaa", sum := "fdbb5d158481455a6c8d7929b33929c57ab60783186c80f9b90bd1897948f406", func := "bifold/bifoldlaw14.WindowHalf", spec := "windowHalf", apart := false }
def WindowHalfSaid : Prop := windowHalfRow.holds Try.pinned (OpenSpec.ofChange windowHalfSpec)

/-- ITS FALSE NEIGHBOUR: 'it returns false'. Refute it at one input. -/
def windowHalfWrong : ChangeSpec := { name := "windowHalf", fn := fun _ => fun
  | [d1, d2] => { results := [.lit (.bool false)], args := [d1, d2] }
  | _ => none }
def WindowHalfWrongFalsely : Prop := windowHalfRow.holds Try.pinned (OpenSpec.ofChange windowHalfWrong)

/- THE SECOND FORM. 'bulk': how many values and letters a reading holds, each counted each time it is reached (what is shared counts as often as it is met; a slice's spare places count too). A statement '..UptoSaid' is the law's where the arguments, and the package variables that the reading takes, are together of bulk at most 1048576: NARROWER than '..Said'. Prove '..Said' where nothing that the law and all that it calls make is longer than what came in: it says more and counts as full. Else prove '..UptoSaid'. A law counts once. -/
mutual
def uptoBulk {H : Type} : DataW H → Nat
  | .lit (.string bytes) => bytes.length + 1
  | .lit _ => 1
  | .nil => 1
  | .ptr d => uptoBulk d + 1
  | .slice elems spare => uptoBulkAll elems + uptoBulkAll spare + 1
  | .agg parts => uptoBulkAll parts + 1
  | .iface _ d => uptoBulk d + 1
  | .map entries => uptoBulkEntries entries + 1
  | .held _ => 1
def uptoBulkAll {H : Type} : List (DataW H) → Nat
  | [] => 0
  | d :: r => uptoBulk d + uptoBulkAll r
def uptoBulkEntries {H : Type} : List (Lit × DataW H) → Nat
  | [] => 0
  | x :: r => uptoBulkEntry x + uptoBulkEntries r
def uptoBulkEntry {H : Type} : Lit × DataW H → Nat
  | (.string bytes, d) => bytes.length + uptoBulk d + 1
  | (_, d) => uptoBulk d + 1
 end
def uptoSmall : (H : Type) → List (DataW H) → Bool := fun _ ds => decide (uptoBulkAll ds ≤ 1048576)
def OpenSpec.upto (s : _root_.Go.ChangeSpec) : _root_.Go.OpenSpec := { _root_.Go.OpenSpec.ofChange s with cond := some uptoSmall }

/-- 'bifoldlaw14.WindowOuts', WHERE WHAT IT READS IS OF BULK AT MOST 1048576: true; the input reads as it did. -/
def windowOutsUptoRow : OpenClaim := { program := "ytnecdcnokihgoaa", sum := "fdbb5d158481455a6c8d7929b33929c57ab60783186c80f9b90bd1897948f406", func := "bifold/bifoldlaw14.WindowOuts", spec := "windowOuts", apart := false, narrowed := true }
def WindowOutsUptoSaid : Prop := windowOutsUptoRow.holds Try.pinned (OpenSpec.upto windowOutsSpec)

/-- 'bifoldlaw14.WindowIns', WHERE WHAT IT READS IS OF BULK AT MOST 1048576: true; the input reads as it did. -/
def windowInsUptoRow : OpenClaim := { program := "ytnecdcnokihgoaa", sum := "fdbb5d158481455a6c8d7929b33929c57ab60783186c80f9b90bd1897948f406", func := "bifold/bifoldlaw14.WindowIns", spec := "windowIns", apart := false, narrowed := true }
def WindowInsUptoSaid : Prop := windowInsUptoRow.holds Try.pinned (OpenSpec.upto windowInsSpec)

/-- 'bifoldlaw14.WindowBoth', WHERE WHAT IT READS IS OF BULK AT MOST 1048576: true; the input reads as it did. -/
def windowBothUptoRow : OpenClaim := { program := "ytnecdcnokihgoaa", sum := "fdbb5d158481455a6c8d7929b33929c57ab60783186c80f9b90bd1897948f406", func := "bifold/bifoldlaw14.WindowBoth", spec := "windowBoth", apart := false, narrowed := true }
def WindowBothUptoSaid : Prop := windowBothUptoRow.holds Try.pinned (OpenSpec.upto windowBothSpec)

/-- 'bifoldlaw14.WindowEdges', WHERE WHAT IT READS IS OF BULK AT MOST 1048576: true; the input reads as it did. -/
def windowEdgesUptoRow : OpenClaim := { program := "ytnecdcnokihgoaa", sum := "fdbb5d158481455a6c8d7929b33929c57ab60783186c80f9b90bd1897948f406", func := "bifold/bifoldlaw14.WindowEdges", spec := "windowEdges", apart := false, narrowed := true }
def WindowEdgesUptoSaid : Prop := windowEdgesUptoRow.holds Try.pinned (OpenSpec.upto windowEdgesSpec)

/-- 'bifoldlaw14.WindowHalf', WHERE WHAT IT READS IS OF BULK AT MOST 1048576: true; the input reads as it did. -/
def windowHalfUptoRow : OpenClaim := { program := "ytnecdcnokihgoaa", sum := "fdbb5d158481455a6c8d7929b33929c57ab60783186c80f9b90bd1897948f406", func := "bifold/bifoldlaw14.WindowHalf", spec := "windowHalf", apart := false, narrowed := true }
def WindowHalfUptoSaid : Prop := windowHalfUptoRow.holds Try.pinned (OpenSpec.upto windowHalfSpec)

end Rows
end Go.Proofs.Ytnecdcnokihgoaa
