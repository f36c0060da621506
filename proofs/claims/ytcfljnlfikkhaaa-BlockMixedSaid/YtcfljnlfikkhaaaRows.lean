/-
  No cell of these rows narrows 'for every input' (looked for: loops, veiled, ifaces, maps, wideKeys, modest, calm, conditions, laid).
  DERIVED. THE GIVEN ROWS OF THIS SEAT. 3 by the template 'for every input the law returns true; each argument reads behind the call as it read before'; 0 by the template 'total and deterministic' (their statements: YtcfljnlfikkhaaaTotals.lean).
  GIVEN WITH THE SEED: the statements are not yours to turn. If you find one false, say at which input.
  Laid BY PROGRAM, IN A SANDBOX (cutbox-rows.mjs): the forced cells as the released guide's own fill.sh prints them over the translation f9e9ba8ccb8b8d4b… (all of the seat's roots in one cut). By AI agents, Wed Nov 11 2026. No macro, syntax, notation, axiom, sorry.
-/
import Derived.Test.YtcfljnlfikkhaaaChecked
import GoSem.Claim
import GoSem.ClaimJoined
import GoSem.ClaimMapViews
import Derived.JoinedTies
import Derived.KernelRfl
namespace Go.Proofs.Ytcfljnlfikkhaaa
/- THE CELL 'sum', in the pinned program and in every row, IS THE sha256 OF THE DUMP (.gsa) THAT YtcfljnlfikkhaaaProg.lean LOADS. Nothing in Lean hashes anything: it is a label: what it is worth is what the hold of that sum in a sandbox is worth. -/
noncomputable def Try.pinned : Pinned := { name := "ytcfljnlfikkhaaa", sum := "f9e9ba8ccb8b8d4b85e23d68cb86d2177eb6617b4c893c94c9072823be44321e", checked := Try.checked }
namespace Rows
def none {H : Type} : Left H := { results := [], args := [] }

/-- 'bifoldlaw16.BlockPlays': WHATEVER THE INPUT: true; the input reads as it did. -/
def blockPlaysSpec : ChangeSpec := { name := "blockPlays", fn := fun _ => fun
  | [d1, d2, d3] => { results := [.lit (.bool true)], args := [d1, d2, d3] }
  | _ => none }
def blockPlaysRow : OpenClaim := { program := "ytcfljnlfikkhaaa", sum := "f9e9ba8ccb8b8d4b85e23d68cb86d2177eb6617b4c893c94c9072823be44321e", func := "bifold/bifoldlaw16.BlockPlays", spec := "blockPlays", apart := false }
def BlockPlaysSaid : Prop := blockPlaysRow.holds Try.pinned (OpenSpec.ofChange blockPlaysSpec)

/-- ITS FALSE NEIGHBOUR: 'it returns false'. Refute it at one input. -/
def blockPlaysWrong : ChangeSpec := { name := "blockPlays", fn := fun _ => fun
  | [d1, d2, d3] => { results := [.lit (.bool false)], args := [d1, d2, d3] }
  | _ => none }
def BlockPlaysWrongFalsely : Prop := blockPlaysRow.holds Try.pinned (OpenSpec.ofChange blockPlaysWrong)

/-- 'bifoldlaw16.BlockGreat': WHATEVER THE INPUT: true; the input reads as it did. -/
def blockGreatSpec : ChangeSpec := { name := "blockGreat", fn := fun _ => fun
  | [d1, d2, d3] => { results := [.lit (.bool true)], args := [d1, d2, d3] }
  | _ => none }
def blockGreatRow : OpenClaim := { program := "ytcfljnlfikkhaaa", sum := "f9e9ba8ccb8b8d4b85e23d68cb86d2177eb6617b4c893c94c9072823be44321e", func := "bifold/bifoldlaw16.BlockGreat", spec := "blockGreat", apart := false }
def BlockGreatSaid : Prop := blockGreatRow.holds Try.pinned (OpenSpec.ofChange blockGreatSpec)

/-- ITS FALSE NEIGHBOUR: 'it returns false'. Refute it at one input. -/
def blockGreatWrong : ChangeSpec := { name := "blockGreat", fn := fun _ => fun
  | [d1, d2, d3] => { results := [.lit (.bool false)], args := [d1, d2, d3] }
  | _ => none }
def BlockGreatWrongFalsely : Prop := blockGreatRow.holds Try.pinned (OpenSpec.ofChange blockGreatWrong)

/-- 'bifoldlaw16.BlockMixed': WHATEVER THE INPUT: true; the input reads as it did. -/
def blockMixedSpec : ChangeSpec := { name := "blockMixed", fn := fun _ => fun
  | [d1, d2, d3, d4] => { results := [.lit (.bool true)], args := [d1, d2, d3, d4] }
  | _ => none }
def blockMixedRow : OpenClaim := { program := "ytcfljnlfikkhaaa", sum := "f9e9ba8ccb8b8d4b85e23d68cb86d2177eb6617b4c893c94c9072823be44321e", func := "bifold/bifoldlaw16.BlockMixed", spec := "blockMixed", apart := false }
def BlockMixedSaid : Prop := blockMixedRow.holds Try.pinned (OpenSpec.ofChange blockMixedSpec)

/-- ITS FALSE NEIGHBOUR: 'it returns false'. Refute it at one input. -/
def blockMixedWrong : ChangeSpec := { name := "blockMixed", fn := fun _ => fun
  | [d1, d2, d3, d4] => { results := [.lit (.bool false)], args := [d1, d2, d3, d4] }
  | _ => none }
def BlockMixedWrongFalsely : Prop := blockMixedRow.holds Try.pinned (OpenSpec.ofChange blockMixedWrong)

/- THE SECOND FORM. 'bulk': how many values and letters a reading holds, each counted each time it is reached (what is shared counts as often as it is met; a slice's spare places count too). A statement '..UptoSaid' is the law's where the arguments, and the package variables that the reading takes, are together of bulk at most 1048576: NARROWER than '..Said'. Prove '..Said' where nothing that the law and all that it calls make is longer than what came in: it says more and counts as full. Else prove '..UptoSaid'. A law counts once. -/
mutual
def uptoBulk {H : Type} : DataW H → Nat
  | .lit (.string bytes) => bytes.length + 1
  | .lit _ => 1
  | .nil => 1
  | .ptr d => uptoBulk d + 1
  | .slice elems spare => uptoBulkAll elems + uptoBulkAll spare + 1
  | .agg parts => uptoBulkAll parts + 1
  | .iface _ d => uptoBulk d + 1
  | .map entries => uptoBulkEntries entries + 1
  | .held _ => 1
def uptoBulkAll {H : Type} : List (DataW H) → Nat
  | [] => 0
  | d :: r => uptoBulk d + uptoBulkAll r
def uptoBulkEntries {H : Type} : List (Lit × DataW H) → Nat
  | [] => 0
  | x :: r => uptoBulkEntry x + uptoBulkEntries r
def uptoBulkEntry {H : Type} : Lit × DataW H → Nat
  | (.string bytes, d) => bytes.length + uptoBulk d + 1
  | (_, d) => uptoBulk d + 1
 end
def uptoSmall : (H : Type) → List (DataW H) → Bool := fun _ ds => decide (uptoBulkAll ds ≤ 1048576)
def OpenSpec.upto (s : _root_.Go.ChangeSpec) : _root_.Go.OpenSpec := { _root_.Go.OpenSpec.ofChange s with cond := some uptoSmall }

/-- 'bifoldlaw16.BlockPlays', WHERE WHAT IT READS IS OF BULK AT MOST 1048576: true; the input reads as it did. -/
def blockPlaysUptoRow : OpenClaim := { program := "ytcfljnlfikkhaaa", sum := "f9e9ba8ccb8b8d4b85e23d68cb86d2177eb6617b4c893c94c9072823be44321e", func := "bifold/bifoldlaw16.BlockPlays", spec := "blockPlays", apart := false, narrowed := true }
def BlockPlaysUptoSaid : Prop := blockPlaysUptoRow.holds Try.pinned (OpenSpec.upto blockPlaysSpec)

/-- 'bifoldlaw16.BlockGreat', WHERE WHAT IT READS IS OF BULK AT MOST 1048576: true; the input reads as it did. -/
def blockGreatUptoRow : OpenClaim := { program := "ytcfljnlfikkhaaa", sum := "f9e9ba8ccb8b8d4b85e23d68cb86d2177eb6617b4c893c94c9072823be44321e", func := "bifold/bifoldlaw16.BlockGreat", spec := "blockGreat", apart := false, narrowed := true }
def BlockGreatUptoSaid : Prop := blockGreatUptoRow.holds Try.pinned (OpenSpec.upto blockGreatSpec)

/-- 'bifoldlaw16.BlockMixed', WHERE WHAT IT READS IS OF BULK AT MOST 1048576: true; the input reads as it did. -/
def blockMixedUptoRow : OpenClaim := { program := "ytcfljnlfikkhaaa", sum := "f9e9ba8ccb8b8d4b85e23d68cb86d2177eb6617b4c893c94c9072823be44321e", func := "bifold/bifoldlaw16.BlockMixed", spec := "blockMixed", apart := false, narrowed := true }
def BlockMixedUptoSaid : Prop := blockMixedUptoRow.holds Try.pinned (OpenSpec.upto blockMixedSpec)

end Rows
end Go.Proofs.Ytcfljnlfikkhaaa
