/-
  No cell of these rows narrows 'for every input' (looked for: loops, veiled, ifaces, maps, wideKeys, modest, calm, conditions, laid).
  DERIVED. THE GIVEN ROWS OF THIS SEAT. 6 by the template 'for every input the law returns true; each argument reads behind the call as it read before'; 0 by the template 'total and deterministic' (their statements: YtffffgpahdkngaaTotals.lean).
  GIVEN WITH THE SEED: the statements are not yours to turn. If you find one false, say at which input.
  Laid BY PROGRAM, IN A SANDBOX (cutbox-rows.mjs): the forced cells as the released guide's own fill.sh prints them over the translation ce6fbe9c6bb11c5a… (all of the seat's roots in one cut). By AI agents, Wed Nov 11 2026. No macro, syntax, notation, axiom, sorry.
-/
import Derived.Test.YtffffgpahdkngaaChecked
import GoSem.Claim
import GoSem.ClaimJoined
import GoSem.ClaimMapViews
import Derived.JoinedTies
import Derived.KernelRfl
namespace Go.Proofs.Ytffffgpahdkngaa
/- THE CELL 'sum', in the pinned program and in every row, IS THE sha256 OF THE DUMP (.gsa) THAT YtffffgpahdkngaaProg.lean LOADS. Nothing in Lean hashes anything: it is a label: what it is worth is what the hold of that sum in a sandbox is worth. -/
noncomputable def Try.pinned : Pinned := { name := "ytffffgpahdkngaa", sum := "ce6fbe9c6bb11c5aae212aa51096232a363ddac75a261457b8e2fd8335ace7c0", checked := Try.checked }
namespace Rows
def none {H : Type} : Left H := { results := [], args := [] }

/-- 'bifoldlaw1.NumPrefixes': WHATEVER THE INPUT: true; the input reads as it did. -/
def numPrefixesSpec : ChangeSpec := { name := "numPrefixes", fn := fun _ => fun
  | [d1, d2, d3, d4, d5] => { results := [.lit (.bool true)], args := [d1, d2, d3, d4, d5] }
  | _ => none }
def numPrefixesRow : OpenClaim := { program := "ytffffgpahdkngaa", sum := "ce6fbe9c6bb11c5aae212aa51096232a363ddac75a261457b8e2fd8335ace7c0", func := "bifold/bifoldlaw1.NumPrefixes", spec := "numPrefixes", apart := false }
def NumPrefixesSaid : Prop := numPrefixesRow.holds Try.pinned (OpenSpec.ofChange numPrefixesSpec)

/-- ITS FALSE NEIGHBOUR: 'it returns false'. Refute it at one input. -/
def numPrefixesWrong : ChangeSpec := { name := "numPrefixes", fn := fun _ => fun
  | [d1, d2, d3, d4, d5] => { results := [.lit (.bool false)], args := [d1, d2, d3, d4, d5] }
  | _ => none }
def NumPrefixesWrongFalsely : Prop := numPrefixesRow.holds Try.pinned (OpenSpec.ofChange numPrefixesWrong)

/-- 'bifoldlaw1.NumBigs': WHATEVER THE INPUT: true; the input reads as it did. -/
def numBigsSpec : ChangeSpec := { name := "numBigs", fn := fun _ => fun
  | [d1, d2, d3] => { results := [.lit (.bool true)], args := [d1, d2, d3] }
  | _ => none }
def numBigsRow : OpenClaim := { program := "ytffffgpahdkngaa", sum := "ce6fbe9c6bb11c5aae212aa51096232a363ddac75a261457b8e2fd8335ace7c0", func := "bifold/bifoldlaw1.NumBigs", spec := "numBigs", apart := false }
def NumBigsSaid : Prop := numBigsRow.holds Try.pinned (OpenSpec.ofChange numBigsSpec)

/-- ITS FALSE NEIGHBOUR: 'it returns false'. Refute it at one input. -/
def numBigsWrong : ChangeSpec := { name := "numBigs", fn := fun _ => fun
  | [d1, d2, d3] => { results := [.lit (.bool false)], args := [d1, d2, d3] }
  | _ => none }
def NumBigsWrongFalsely : Prop := numBigsRow.holds Try.pinned (OpenSpec.ofChange numBigsWrong)

/-- 'bifoldlaw1.NumEdges': WHATEVER THE INPUT: true; the input reads as it did. -/
def numEdgesSpec : ChangeSpec := { name := "numEdges", fn := fun _ => fun
  | [d1, d2] => { results := [.lit (.bool true)], args := [d1, d2] }
  | _ => none }
def numEdgesRow : OpenClaim := { program := "ytffffgpahdkngaa", sum := "ce6fbe9c6bb11c5aae212aa51096232a363ddac75a261457b8e2fd8335ace7c0", func := "bifold/bifoldlaw1.NumEdges", spec := "numEdges", apart := false }
def NumEdgesSaid : Prop := numEdgesRow.holds Try.pinned (OpenSpec.ofChange numEdgesSpec)

/-- ITS FALSE NEIGHBOUR: 'it returns false'. Refute it at one input. -/
def numEdgesWrong : ChangeSpec := { name := "numEdges", fn := fun _ => fun
  | [d1, d2] => { results := [.lit (.bool false)], args := [d1, d2] }
  | _ => none }
def NumEdgesWrongFalsely : Prop := numEdgesRow.holds Try.pinned (OpenSpec.ofChange numEdgesWrong)

/-- 'bifoldlaw1.NumFar': WHATEVER THE INPUT: true; the input reads as it did. -/
def numFarSpec : ChangeSpec := { name := "numFar", fn := fun _ => fun
  | [d1, d2, d3, d4] => { results := [.lit (.bool true)], args := [d1, d2, d3, d4] }
  | _ => none }
def numFarRow : OpenClaim := { program := "ytffffgpahdkngaa", sum := "ce6fbe9c6bb11c5aae212aa51096232a363ddac75a261457b8e2fd8335ace7c0", func := "bifold/bifoldlaw1.NumFar", spec := "numFar", apart := false }
def NumFarSaid : Prop := numFarRow.holds Try.pinned (OpenSpec.ofChange numFarSpec)

/-- ITS FALSE NEIGHBOUR: 'it returns false'. Refute it at one input. -/
def numFarWrong : ChangeSpec := { name := "numFar", fn := fun _ => fun
  | [d1, d2, d3, d4] => { results := [.lit (.bool false)], args := [d1, d2, d3, d4] }
  | _ => none }
def NumFarWrongFalsely : Prop := numFarRow.holds Try.pinned (OpenSpec.ofChange numFarWrong)

/-- 'bifoldlaw1.NumVars': WHATEVER THE INPUT: true; the input reads as it did. -/
def numVarsSpec : ChangeSpec := { name := "numVars", fn := fun _ => fun
  | [d1, d2, d3] => { results := [.lit (.bool true)], args := [d1, d2, d3] }
  | _ => none }
def numVarsRow : OpenClaim := { program := "ytffffgpahdkngaa", sum := "ce6fbe9c6bb11c5aae212aa51096232a363ddac75a261457b8e2fd8335ace7c0", func := "bifold/bifoldlaw1.NumVars", spec := "numVars", apart := false }
def NumVarsSaid : Prop := numVarsRow.holds Try.pinned (OpenSpec.ofChange numVarsSpec)

/-- ITS FALSE NEIGHBOUR: 'it returns false'. Refute it at one input. -/
def numVarsWrong : ChangeSpec := { name := "numVars", fn := fun _ => fun
  | [d1, d2, d3] => { results := [.lit (.bool false)], args := [d1, d2, d3] }
  | _ => none }
def NumVarsWrongFalsely : Prop := numVarsRow.holds Try.pinned (OpenSpec.ofChange numVarsWrong)

/-- 'bifoldlaw1.NumReads': WHATEVER THE INPUT: true; the input reads as it did. -/
def numReadsSpec : ChangeSpec := { name := "numReads", fn := fun _ => fun
  | [d1, d2, d3] => { results := [.lit (.bool true)], args := [d1, d2, d3] }
  | _ => none }
def numReadsRow : OpenClaim := { program := "ytffffgpahdkngaa", sum := "ce6fbe9c6bb11c5aae212aa51096232a363ddac75a261457b8e2fd8335ace7c0", func := "bifold/bifoldlaw1.NumReads", spec := "numReads", apart := false }
def NumReadsSaid : Prop := numReadsRow.holds Try.pinned (OpenSpec.ofChange numReadsSpec)

/-- ITS FALSE NEIGHBOUR: 'it returns false'. Refute it at one input. -/
def numReadsWrong : ChangeSpec := { name := "numReads", fn := fun _ => fun
  | [d1, d2, d3] => { results := [.lit (.bool false)], args := [d1, d2, d3] }
  | _ => none }
def NumReadsWrongFalsely : Prop := numReadsRow.holds Try.pinned (OpenSpec.ofChange numReadsWrong)

/- THE SECOND FORM. 'bulk': how many values and letters a reading holds, each counted each time it is reached (what is shared counts as often as it is met; a slice's spare places count too). A statement '..UptoSaid' is the law's where the arguments, and the package variables that the reading takes, are together of bulk at most 1048576: NARROWER than '..Said'. Prove '..Said' where nothing that the law and all that it calls make is longer than what came in: it says more and counts as full. Else prove '..UptoSaid'. A law counts once. -/
mutual
def uptoBulk {H : Type} : DataW H → Nat
  | .lit (.string bytes) => bytes.length + 1
  | .lit _ => 1
  | .nil => 1
  | .ptr d => uptoBulk d + 1
  | .slice elems spare => uptoBulkAll elems + uptoBulkAll spare + 1
  | .agg parts => uptoBulkAll parts + 1
  | .iface _ d => uptoBulk d + 1
  | .map entries => uptoBulkEntries entries + 1
  | .held _ => 1
def uptoBulkAll {H : Type} : List (DataW H) → Nat
  | [] => 0
  | d :: r => uptoBulk d + uptoBulkAll r
def uptoBulkEntries {H : Type} : List (Lit × DataW H) → Nat
  | [] => 0
  | x :: r => uptoBulkEntry x + uptoBulkEntries r
def uptoBulkEntry {H : Type} : Lit × DataW H → Nat
  | (.string bytes, d) => bytes.length + uptoBulk d + 1
  | (_, d) => uptoBulk d + 1
 end
def uptoSmall : (H : Type) → List (DataW H) → Bool := fun _ ds => decide (uptoBulkAll ds ≤ 1048576)
def OpenSpec.upto (s : _root_.Go.ChangeSpec) : _root_.Go.OpenSpec := { _root_.Go.OpenSpec.ofChange s with cond := some uptoSmall }

/-- 'bifoldlaw1.NumPrefixes', WHERE WHAT IT READS IS OF BULK AT MOST 1048576: true; the input reads as it did. -/
def numPrefixesUptoRow : OpenClaim := { program := "ytffffgpahdkngaa", sum := "ce6fbe9c6bb11c5aae212aa51096232a363ddac75a261457b8e2fd8335ace7c0", func := "bifold/bifoldlaw1.NumPrefixes", spec := "numPrefixes", apart := false, narrowed := true }
def NumPrefixesUptoSaid : Prop := numPrefixesUptoRow.holds Try.pinned (OpenSpec.upto numPrefixesSpec)

/-- 'bifoldlaw1.NumBigs', WHERE WHAT IT READS IS OF BULK AT MOST 1048576: true; the input reads as it did. -/
def numBigsUptoRow : OpenClaim := { program := "ytffffgpahdkngaa", sum := "ce6fbe9c6bb11c5aae212aa51096232a363ddac75a261457b8e2fd8335ace7c0", func := "bifold/bifoldlaw1.NumBigs", spec := "numBigs", apart := false, narrowed := true }
def NumBigsUptoSaid : Prop := numBigsUptoRow.holds Try.pinned (OpenSpec.upto numBigsSpec)

/-- 'bifoldlaw1.NumEdges', WHERE WHAT IT READS IS OF BULK AT MOST 1048576: true; the input reads as it did. -/
def numEdgesUptoRow : OpenClaim := { program := "ytffffgpahdkngaa", sum := "ce6fbe9c6bb11c5aae212aa51096232a363ddac75a261457b8e2fd8335ace7c0", func := "bifold/bifoldlaw1.NumEdges", spec := "numEdges", apart := false, narrowed := true }
def NumEdgesUptoSaid : Prop := numEdgesUptoRow.holds Try.pinned (OpenSpec.upto numEdgesSpec)

/-- 'bifoldlaw1.NumFar', WHERE WHAT IT READS IS OF BULK AT MOST 1048576: true; the input reads as it did. -/
def numFarUptoRow : OpenClaim := { program := "ytffffgpahdkngaa", sum := "ce6fbe9c6bb11c5aae212aa51096232a363ddac75a261457b8e2fd8335ace7c0", func := "bifold/bifoldlaw1.NumFar", spec := "numFar", apart := false, narrowed := true }
def NumFarUptoSaid : Prop := numFarUptoRow.holds Try.pinned (OpenSpec.upto numFarSpec)

/-- 'bifoldlaw1.NumVars', WHERE WHAT IT READS IS OF BULK AT MOST 1048576: true; the input reads as it did. -/
def numVarsUptoRow : OpenClaim := { program := "ytffffgpahdkngaa", sum := "ce6fbe9c6bb11c5aae212aa51096232a363ddac75a261457b8e2fd8335ace7c0", func := "bifold/bifoldlaw1.NumVars", spec := "numVars", apart := false, narrowed := true }
def NumVarsUptoSaid : Prop := numVarsUptoRow.holds Try.pinned (OpenSpec.upto numVarsSpec)

/-- 'bifoldlaw1.NumReads', WHERE WHAT IT READS IS OF BULK AT MOST 1048576: true; the input reads as it did. -/
def numReadsUptoRow : OpenClaim := { program := "ytffffgpahdkngaa", sum := "ce6fbe9c6bb11c5aae212aa51096232a363ddac75a261457b8e2fd8335ace7c0", func := "bifold/bifoldlaw1.NumReads", spec := "numReads", apart := false, narrowed := true }
def NumReadsUptoSaid : Prop := numReadsUptoRow.holds Try.pinned (OpenSpec.upto numReadsSpec)

end Rows
end Go.Proofs.Ytffffgpahdkngaa
