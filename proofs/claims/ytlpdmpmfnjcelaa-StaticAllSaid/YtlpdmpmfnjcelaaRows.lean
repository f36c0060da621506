/-
  No cell of these rows narrows 'for every input' (looked for: loops, veiled, ifaces, maps, wideKeys, modest, calm, conditions, laid).
  DERIVED. THE GIVEN ROWS OF THIS SEAT. 3 by the template 'for every input the law returns true; each argument reads behind the call as it read before'; 0 by the template 'total and deterministic' (their statements: YtlpdmpmfnjcelaaTotals.lean).
  GIVEN WITH THE SEED: the statements are not yours to turn. If you find one false, say at which input.
  Laid BY PROGRAM, IN A SANDBOX (cutbox-rows.mjs): the forced cells as the released guide's own fill.sh prints them over the translation 913b126c6b54934a… (all of the seat's roots in one cut). By AI agents, Wed Nov 11 2026. No macro, syntax, notation, axiom, sorry.
-/
import Derived.Test.YtlpdmpmfnjcelaaChecked
import GoSem.Claim
import GoSem.ClaimJoined
import GoSem.ClaimMapViews
import Derived.JoinedTies
import Derived.KernelRfl
namespace Go.Proofs.Ytlpdmpmfnjcelaa
/- THE CELL 'sum', in the pinned program and in every row, IS THE sha256 OF THE DUMP (.gsa) THAT YtlpdmpmfnjcelaaProg.lean LOADS. Nothing in Lean hashes anything: it is a label: what it is worth is what the hold of that sum in a sandbox is worth. -/
noncomputable def Try.pinned : Pinned := { name := "ytlpdmpmfnjcelaa", sum := "913b126c6b54934a5082767cb5ee6196966d2b0dfefcb6063a81dc3cfb212433", checked := Try.checked }
namespace Rows
def none {H : Type} : Left H := { results := [], args := [] }

/-- 'bifoldlaw4.StaticTells': WHATEVER THE INPUT: true; the input reads as it did. -/
def staticTellsSpec : ChangeSpec := { name := "staticTells", fn := fun _ => fun
  | [d] => { results := [.lit (.bool true)], args := [d] }
  | _ => none }
def staticTellsRow : OpenClaim := { program := "ytlpdmpmfnjcelaa", sum := "913b126c6b54934a5082767cb5ee6196966d2b0dfefcb6063a81dc3cfb212433", func := "bifold/bifoldlaw4.StaticTells", spec := "staticTells", apart := false }
def StaticTellsSaid : Prop := staticTellsRow.holds Try.pinned (OpenSpec.ofChange staticTellsSpec)

/-- ITS FALSE NEIGHBOUR: 'it returns false'. Refute it at one input. -/
def staticTellsWrong : ChangeSpec := { name := "staticTells", fn := fun _ => fun
  | [d] => { results := [.lit (.bool false)], args := [d] }
  | _ => none }
def StaticTellsWrongFalsely : Prop := staticTellsRow.holds Try.pinned (OpenSpec.ofChange staticTellsWrong)

/-- 'bifoldlaw4.StaticFinds': WHATEVER THE INPUT: true; the input reads as it did. -/
def staticFindsSpec : ChangeSpec := { name := "staticFinds", fn := fun _ => fun
  | [d1, d2, d3] => { results := [.lit (.bool true)], args := [d1, d2, d3] }
  | _ => none }
def staticFindsRow : OpenClaim := { program := "ytlpdmpmfnjcelaa", sum := "913b126c6b54934a5082767cb5ee6196966d2b0dfefcb6063a81dc3cfb212433", func := "bifold/bifoldlaw4.StaticFinds", spec := "staticFinds", apart := false }
def StaticFindsSaid : Prop := staticFindsRow.holds Try.pinned (OpenSpec.ofChange staticFindsSpec)

/-- ITS FALSE NEIGHBOUR: 'it returns false'. Refute it at one input. -/
def staticFindsWrong : ChangeSpec := { name := "staticFinds", fn := fun _ => fun
  | [d1, d2, d3] => { results := [.lit (.bool false)], args := [d1, d2, d3] }
  | _ => none }
def StaticFindsWrongFalsely : Prop := staticFindsRow.holds Try.pinned (OpenSpec.ofChange staticFindsWrong)

/-- 'bifoldlaw4.StaticAll': WHATEVER THE INPUT: true; the input reads as it did. -/
def staticAllSpec : ChangeSpec := { name := "staticAll", fn := fun _ => fun
  | [d] => { results := [.lit (.bool true)], args := [d] }
  | _ => none }
def staticAllRow : OpenClaim := { program := "ytlpdmpmfnjcelaa", sum := "913b126c6b54934a5082767cb5ee6196966d2b0dfefcb6063a81dc3cfb212433", func := "bifold/bifoldlaw4.StaticAll", spec := "staticAll", apart := false }
def StaticAllSaid : Prop := staticAllRow.holds Try.pinned (OpenSpec.ofChange staticAllSpec)

/-- ITS FALSE NEIGHBOUR: 'it returns false'. Refute it at one input. -/
def staticAllWrong : ChangeSpec := { name := "staticAll", fn := fun _ => fun
  | [d] => { results := [.lit (.bool false)], args := [d] }
  | _ => none }
def StaticAllWrongFalsely : Prop := staticAllRow.holds Try.pinned (OpenSpec.ofChange staticAllWrong)

/- THE SECOND FORM. 'bulk': how many values and letters a reading holds, each counted each time it is reached (what is shared counts as often as it is met; a slice's spare places count too). A statement '..UptoSaid' is the law's where the arguments, and the package variables that the reading takes, are together of bulk at most 1048576: NARROWER than '..Said'. Prove '..Said' where nothing that the law and all that it calls make is longer than what came in: it says more and counts as full. Else prove '..UptoSaid'. A law counts once. -/
mutual
def uptoBulk {H : Type} : DataW H → Nat
  | .lit (.string bytes) => bytes.length + 1
  | .lit _ => 1
  | .nil => 1
  | .ptr d => uptoBulk d + 1
  | .slice elems spare => uptoBulkAll elems + uptoBulkAll spare + 1
  | .agg parts => uptoBulkAll parts + 1
  | .iface _ d => uptoBulk d + 1
  | .map entries => uptoBulkEntries entries + 1
  | .held _ => 1
def uptoBulkAll {H : Type} : List (DataW H) → Nat
  | [] => 0
  | d :: r => uptoBulk d + uptoBulkAll r
def uptoBulkEntries {H : Type} : List (Lit × DataW H) → Nat
  | [] => 0
  | x :: r => uptoBulkEntry x + uptoBulkEntries r
def uptoBulkEntry {H : Type} : Lit × DataW H → Nat
  | (.string bytes, d) => bytes.length + uptoBulk d + 1
  | (_, d) => uptoBulk d + 1
 end
def uptoSmall : (H : Type) → List (DataW H) → Bool := fun _ ds => decide (uptoBulkAll ds ≤ 1048576)
def OpenSpec.upto (s : _root_.Go.ChangeSpec) : _root_.Go.OpenSpec := { _root_.Go.OpenSpec.ofChange s with cond := some uptoSmall }

/-- 'bifoldlaw4.StaticTells', WHERE WHAT IT READS IS OF BULK AT MOST 1048576: true; the input reads as it did. -/
def staticTellsUptoRow : OpenClaim := { program := "ytlpdmpmfnjcelaa", sum := "913b126c6b54934a5082767cb5ee6196966d2b0dfefcb6063a81dc3cfb212433", func := "bifold/bifoldlaw4.StaticTells", spec := "staticTells", apart := false, narrowed := true }
def StaticTellsUptoSaid : Prop := staticTellsUptoRow.holds Try.pinned (OpenSpec.upto staticTellsSpec)

/-- 'bifoldlaw4.StaticFinds', WHERE WHAT IT READS IS OF BULK AT MOST 1048576: true; the input reads as it did. -/
def staticFindsUptoRow : OpenClaim := { program := "ytlpdmpmfnjcelaa", sum := "913b126c6b54934a5082767cb5ee6196966d2b0dfefcb6063a81dc3cfb212433", func := "bifold/bifoldlaw4.StaticFinds", spec := "staticFinds", apart := false, narrowed := true }
def StaticFindsUptoSaid : Prop := staticFindsUptoRow.holds Try.pinned (OpenSpec.upto staticFindsSpec)

/-- 'bifoldlaw4.StaticAll', WHERE WHAT IT READS IS OF BULK AT MOST 1048576: true; the input reads as it did. -/
def staticAllUptoRow : OpenClaim := { program := "ytlpdmpmfnjcelaa", sum := "913b126c6b54934a5082767cb5ee6196966d2b0dfefcb6063a81dc3cfb212433", func := "bifold/bifoldlaw4.StaticAll", spec := "staticAll", apart := false, narrowed := true }
def StaticAllUptoSaid : Prop := staticAllUptoRow.holds Try.pinned (OpenSpec.upto staticAllSpec)

end Rows
end Go.Proofs.Ytlpdmpmfnjcelaa
