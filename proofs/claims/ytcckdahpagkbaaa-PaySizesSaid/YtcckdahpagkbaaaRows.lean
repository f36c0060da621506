/-
  No cell of these rows narrows 'for every input' (looked for: loops, veiled, ifaces, maps, wideKeys, modest, calm, conditions, laid).
  DERIVED. THE GIVEN ROWS OF THIS SEAT. 3 by the template 'for every input the law returns true; each argument reads behind the call as it read before'; 0 by the template 'total and deterministic' (their statements: YtcckdahpagkbaaaTotals.lean).
  GIVEN WITH THE SEED: the statements are not yours to turn. If you find one false, say at which input.
  Laid BY PROGRAM, IN A SANDBOX (cutbox-rows.mjs): the forced cells as the released guide's own fill.sh prints them over the translation 6b9844de69a653ce… (all of the seat's roots in one cut). By AI agents, Wed Nov 11 2026. No macro, syntax, notation, axiom, sorry.
-/
import Derived.Test.YtcckdahpagkbaaaChecked
import GoSem.Claim
import GoSem.ClaimJoined
import GoSem.ClaimMapViews
import Derived.JoinedTies
import Derived.KernelRfl
namespace Go.Proofs.Ytcckdahpagkbaaa
/- THE CELL 'sum', in the pinned program and in every row, IS THE sha256 OF THE DUMP (.gsa) THAT YtcckdahpagkbaaaProg.lean LOADS. Nothing in Lean hashes anything: it is a label: what it is worth is what the hold of that sum in a sandbox is worth. -/
noncomputable def Try.pinned : Pinned := { name := "ytcckdahpagkbaaa", sum := "6b9844de69a653ce11a7c5bad4bce3e04163b98133051de7b982ab5296d174ff", checked := Try.checked }
namespace Rows
def none {H : Type} : Left H := { results := [], args := [] }

/-- 'bifoldlaw12.PayCodes': WHATEVER THE INPUT: true; the input reads as it did. -/
def payCodesSpec : ChangeSpec := { name := "payCodes", fn := fun _ => fun
  | [d1, d2] => { results := [.lit (.bool true)], args := [d1, d2] }
  | _ => none }
def payCodesRow : OpenClaim := { program := "ytcckdahpagkbaaa", sum := "6b9844de69a653ce11a7c5bad4bce3e04163b98133051de7b982ab5296d174ff", func := "bifold/bifoldlaw12.PayCodes", spec := "payCodes", apart := false }
def PayCodesSaid : Prop := payCodesRow.holds Try.pinned (OpenSpec.ofChange payCodesSpec)

/-- ITS FALSE NEIGHBOUR: 'it returns false'. Refute it at one input. -/
def payCodesWrong : ChangeSpec := { name := "payCodes", fn := fun _ => fun
  | [d1, d2] => { results := [.lit (.bool false)], args := [d1, d2] }
  | _ => none }
def PayCodesWrongFalsely : Prop := payCodesRow.holds Try.pinned (OpenSpec.ofChange payCodesWrong)

/-- 'bifoldlaw12.PaySizes': WHATEVER THE INPUT: true; the input reads as it did. -/
def paySizesSpec : ChangeSpec := { name := "paySizes", fn := fun _ => fun
  | [d1, d2, d3] => { results := [.lit (.bool true)], args := [d1, d2, d3] }
  | _ => none }
def paySizesRow : OpenClaim := { program := "ytcckdahpagkbaaa", sum := "6b9844de69a653ce11a7c5bad4bce3e04163b98133051de7b982ab5296d174ff", func := "bifold/bifoldlaw12.PaySizes", spec := "paySizes", apart := false }
def PaySizesSaid : Prop := paySizesRow.holds Try.pinned (OpenSpec.ofChange paySizesSpec)

/-- ITS FALSE NEIGHBOUR: 'it returns false'. Refute it at one input. -/
def paySizesWrong : ChangeSpec := { name := "paySizes", fn := fun _ => fun
  | [d1, d2, d3] => { results := [.lit (.bool false)], args := [d1, d2, d3] }
  | _ => none }
def PaySizesWrongFalsely : Prop := paySizesRow.holds Try.pinned (OpenSpec.ofChange paySizesWrong)

/-- 'bifoldlaw12.PayPads': WHATEVER THE INPUT: true; the input reads as it did. -/
def payPadsSpec : ChangeSpec := { name := "payPads", fn := fun _ => fun
  | [d1, d2, d3, d4, d5] => { results := [.lit (.bool true)], args := [d1, d2, d3, d4, d5] }
  | _ => none }
def payPadsRow : OpenClaim := { program := "ytcckdahpagkbaaa", sum := "6b9844de69a653ce11a7c5bad4bce3e04163b98133051de7b982ab5296d174ff", func := "bifold/bifoldlaw12.PayPads", spec := "payPads", apart := false }
def PayPadsSaid : Prop := payPadsRow.holds Try.pinned (OpenSpec.ofChange payPadsSpec)

/-- ITS FALSE NEIGHBOUR: 'it returns false'. Refute it at one input. -/
def payPadsWrong : ChangeSpec := { name := "payPads", fn := fun _ => fun
  | [d1, d2, d3, d4, d5] => { results := [.lit (.bool false)], args := [d1, d2, d3, d4, d5] }
  | _ => none }
def PayPadsWrongFalsely : Prop := payPadsRow.holds Try.pinned (OpenSpec.ofChange payPadsWrong)

/- THE SECOND FORM. 'bulk': how many values and letters a reading holds, each counted each time it is reached (what is shared counts as often as it is met; a slice's spare places count too). A statement '..UptoSaid' is the law's where the arguments, and the package variables that the reading takes, are together of bulk at most 1048576: NARROWER than '..Said'. Prove '..Said' where nothing that the law and all that it calls make is longer than what came in: it says more and counts as full. Else prove '..UptoSaid'. A law counts once. -/
mutual
def uptoBulk {H : Type} : DataW H → Nat
  | .lit (.string bytes) => bytes.length + 1
  | .lit _ => 1
  | .nil => 1
  | .ptr d => uptoBulk d + 1
  | .slice elems spare => uptoBulkAll elems + uptoBulkAll spare + 1
  | .agg parts => uptoBulkAll parts + 1
  | .iface _ d => uptoBulk d + 1
  | .map entries => uptoBulkEntries entries + 1
  | .held _ => 1
def uptoBulkAll {H : Type} : List (DataW H) → Nat
  | [] => 0
  | d :: r => uptoBulk d + uptoBulkAll r
def uptoBulkEntries {H : Type} : List (Lit × DataW H) → Nat
  | [] => 0
  | x :: r => uptoBulkEntry x + uptoBulkEntries r
def uptoBulkEntry {H : Type} : Lit × DataW H → Nat
  | (.string bytes, d) => bytes.length + uptoBulk d + 1
  | (_, d) => uptoBulk d + 1
 end
def uptoSmall : (H : Type) → List (DataW H) → Bool := fun _ ds => decide (uptoBulkAll ds ≤ 1048576)
def OpenSpec.upto (s : _root_.Go.ChangeSpec) : _root_.Go.OpenSpec := { _root_.Go.OpenSpec.ofChange s with cond := some uptoSmall }

/-- 'bifoldlaw12.PayCodes', WHERE WHAT IT READS IS OF BULK AT MOST 1048576: true; the input reads as it did. -/
def payCodesUptoRow : OpenClaim := { program := "ytcckdahpagkbaaa", sum := "6b9844de69a653ce11a7c5bad4bce3e04163b98133051de7b982ab5296d174ff", func := "bifold/bifoldlaw12.PayCodes", spec := "payCodes", apart := false, narrowed := true }
def PayCodesUptoSaid : Prop := payCodesUptoRow.holds Try.pinned (OpenSpec.upto payCodesSpec)

/-- 'bifoldlaw12.PaySizes', WHERE WHAT IT READS IS OF BULK AT MOST 1048576: true; the input reads as it did. -/
def paySizesUptoRow : OpenClaim := { program := "ytcckdahpagkbaaa", sum := "6b9844de69a653ce11a7c5bad4bce3e04163b98133051de7b982ab5296d174ff", func := "bifold/bifoldlaw12.PaySizes", spec := "paySizes", apart := false, narrowed := true }
def PaySizesUptoSaid : Prop := paySizesUptoRow.holds Try.pinned (OpenSpec.upto paySizesSpec)

/-- 'bifoldlaw12.PayPads', WHERE WHAT IT READS IS OF BULK AT MOST 1048576: true; the input reads as it did. -/
def payPadsUptoRow : OpenClaim := { program := "ytcckdahpagkbaaa", sum := "6b9844de69a653ce11a7c5bad4bce3e04163b98133051de7b982ab5296d174ff", func := "bifold/bifoldlaw12.PayPads", spec := "payPads", apart := false, narrowed := true }
def PayPadsUptoSaid : Prop := payPadsUptoRow.holds Try.pinned (OpenSpec.upto payPadsSpec)

end Rows
end Go.Proofs.Ytcckdahpagkbaaa
