/-
  No cell of these rows narrows 'for every input' (looked for: loops, veiled, ifaces, maps, wideKeys, modest, calm, conditions, laid).
  DERIVED. THE GIVEN ROWS OF THIS SEAT. 5 by the template 'for every input the law returns true; each argument reads behind the call as it read before'; 0 by the template 'total and deterministic' (their statements: YtnegiagooahncaaTotals.lean).
  GIVEN WITH THE SEED: the statements are not yours to turn. If you find one false, say at which input.
  Laid BY PROGRAM, IN A SANDBOX (cutbox-rows.mjs): the forced cells as the released guide's own fill.sh prints them over the translation 60ff929aefce5741… (all of the seat's roots in one cut). By AI agents, Wed Nov 11 2026. No macro, syntax, notation, axiom, sorry.
-/
import Derived.Test.YtnegiagooahncaaChecked
import GoSem.Claim
import GoSem.ClaimJoined
import GoSem.ClaimMapViews
import Derived.JoinedTies
import Derived.KernelRfl
namespace Go.Proofs.Ytnegiagooahncaa
/- THE CELL 'sum', in the pinned program and in every row, IS THE sha256 OF THE DUMP (.gsa) THAT YtnegiagooahncaaProg.lean LOADS. Nothing in Lean hashes anything: it is a label: what it is worth is what the hold of that sum in a sandbox is worth. -/
noncomputable def Try.pinned : Pinned := { name := "ytnegiagooahncaa", sum := "60ff929aefce5741eabbcf09145c1dce254b22b3f9b32a78491ae4ede6bbd487", checked := Try.checked }
namespace Rows
def none {H : Type} : Left H := { results := [], args := [] }

/-- 'bifoldlaw23.CongPto': WHATEVER THE INPUT: true; the input reads as it did. -/
def congPtoSpec : ChangeSpec := { name := "congPto", fn := fun _ => fun
  | [d1, d2, d3] => { results := [.lit (.bool true)], args := [d1, d2, d3] }
  | _ => none }
def congPtoRow : OpenClaim := { program := "ytnegiagooahncaa", sum := "60ff929aefce5741eabbcf09145c1dce254b22b3f9b32a78491ae4ede6bbd487", func := "bifold/bifoldlaw23.CongPto", spec := "congPto", apart := false }
def CongPtoSaid : Prop := congPtoRow.holds Try.pinned (OpenSpec.ofChange congPtoSpec)

/-- ITS FALSE NEIGHBOUR: 'it returns false'. Refute it at one input. -/
def congPtoWrong : ChangeSpec := { name := "congPto", fn := fun _ => fun
  | [d1, d2, d3] => { results := [.lit (.bool false)], args := [d1, d2, d3] }
  | _ => none }
def CongPtoWrongFalsely : Prop := congPtoRow.holds Try.pinned (OpenSpec.ofChange congPtoWrong)

/-- 'bifoldlaw23.CongOnce': WHATEVER THE INPUT: true; the input reads as it did. -/
def congOnceSpec : ChangeSpec := { name := "congOnce", fn := fun _ => fun
  | [d1, d2, d3] => { results := [.lit (.bool true)], args := [d1, d2, d3] }
  | _ => none }
def congOnceRow : OpenClaim := { program := "ytnegiagooahncaa", sum := "60ff929aefce5741eabbcf09145c1dce254b22b3f9b32a78491ae4ede6bbd487", func := "bifold/bifoldlaw23.CongOnce", spec := "congOnce", apart := false }
def CongOnceSaid : Prop := congOnceRow.holds Try.pinned (OpenSpec.ofChange congOnceSpec)

/-- ITS FALSE NEIGHBOUR: 'it returns false'. Refute it at one input. -/
def congOnceWrong : ChangeSpec := { name := "congOnce", fn := fun _ => fun
  | [d1, d2, d3] => { results := [.lit (.bool false)], args := [d1, d2, d3] }
  | _ => none }
def CongOnceWrongFalsely : Prop := congOnceRow.holds Try.pinned (OpenSpec.ofChange congOnceWrong)

/-- 'bifoldlaw23.CongSlow': WHATEVER THE INPUT: true; the input reads as it did. -/
def congSlowSpec : ChangeSpec := { name := "congSlow", fn := fun _ => fun
  | [d1, d2, d3] => { results := [.lit (.bool true)], args := [d1, d2, d3] }
  | _ => none }
def congSlowRow : OpenClaim := { program := "ytnegiagooahncaa", sum := "60ff929aefce5741eabbcf09145c1dce254b22b3f9b32a78491ae4ede6bbd487", func := "bifold/bifoldlaw23.CongSlow", spec := "congSlow", apart := false }
def CongSlowSaid : Prop := congSlowRow.holds Try.pinned (OpenSpec.ofChange congSlowSpec)

/-- ITS FALSE NEIGHBOUR: 'it returns false'. Refute it at one input. -/
def congSlowWrong : ChangeSpec := { name := "congSlow", fn := fun _ => fun
  | [d1, d2, d3] => { results := [.lit (.bool false)], args := [d1, d2, d3] }
  | _ => none }
def CongSlowWrongFalsely : Prop := congSlowRow.holds Try.pinned (OpenSpec.ofChange congSlowWrong)

/-- 'bifoldlaw23.CongPlays': WHATEVER THE INPUT: true; the input reads as it did. -/
def congPlaysSpec : ChangeSpec := { name := "congPlays", fn := fun _ => fun
  | [d1, d2, d3, d4] => { results := [.lit (.bool true)], args := [d1, d2, d3, d4] }
  | _ => none }
def congPlaysRow : OpenClaim := { program := "ytnegiagooahncaa", sum := "60ff929aefce5741eabbcf09145c1dce254b22b3f9b32a78491ae4ede6bbd487", func := "bifold/bifoldlaw23.CongPlays", spec := "congPlays", apart := false }
def CongPlaysSaid : Prop := congPlaysRow.holds Try.pinned (OpenSpec.ofChange congPlaysSpec)

/-- ITS FALSE NEIGHBOUR: 'it returns false'. Refute it at one input. -/
def congPlaysWrong : ChangeSpec := { name := "congPlays", fn := fun _ => fun
  | [d1, d2, d3, d4] => { results := [.lit (.bool false)], args := [d1, d2, d3, d4] }
  | _ => none }
def CongPlaysWrongFalsely : Prop := congPlaysRow.holds Try.pinned (OpenSpec.ofChange congPlaysWrong)

/-- 'bifoldlaw23.CongFloor': WHATEVER THE INPUT: true; the input reads as it did. -/
def congFloorSpec : ChangeSpec := { name := "congFloor", fn := fun _ => fun
  | [d1, d2] => { results := [.lit (.bool true)], args := [d1, d2] }
  | _ => none }
def congFloorRow : OpenClaim := { program := "ytnegiagooahncaa", sum := "60ff929aefce5741eabbcf09145c1dce254b22b3f9b32a78491ae4ede6bbd487", func := "bifold/bifoldlaw23.CongFloor", spec := "congFloor", apart := false }
def CongFloorSaid : Prop := congFloorRow.holds Try.pinned (OpenSpec.ofChange congFloorSpec)

/-- ITS FALSE NEIGHBOUR: 'it returns false'. Refute it at one input. -/
def congFloorWrong : ChangeSpec := { name := "congFloor", fn := fun _ => fun
  | [d1, d2] => { results := [.lit (.bool false)], args := [d1, d2] }
  | _ => none }
def CongFloorWrongFalsely : Prop := congFloorRow.holds Try.pinned (OpenSpec.ofChange congFloorWrong)

/- THE SECOND FORM. 'bulk': how many values and letters a reading holds, each counted each time it is reached (what is shared counts as often as it is met; a slice's spare places count too). A statement '..UptoSaid' is the law's where the arguments, and the package variables that the reading takes, are together of bulk at most 1048576: NARROWER than '..Said'. Prove '..Said' where nothing that the law and all that it calls make is longer than what came in: it says more and counts as full. Else prove '..UptoSaid'. A law counts once. -/
mutual
def uptoBulk {H : Type} : DataW H → Nat
  | .lit (.string bytes) => bytes.length + 1
  | .lit _ => 1
  | .nil => 1
  | .ptr d => uptoBulk d + 1
  | .slice elems spare => uptoBulkAll elems + uptoBulkAll spare + 1
  | .agg parts => uptoBulkAll parts + 1
  | .iface _ d => uptoBulk d + 1
  | .map entries => uptoBulkEntries entries + 1
  | .held _ => 1
def uptoBulkAll {H : Type} : List (DataW H) → Nat
  | [] => 0
  | d :: r => uptoBulk d + uptoBulkAll r
def uptoBulkEntries {H : Type} : List (Lit × DataW H) → Nat
  | [] => 0
  | x :: r => uptoBulkEntry x + uptoBulkEntries r
def uptoBulkEntry {H : Type} : Lit × DataW H → Nat
  | (.string bytes, d) => bytes.length + uptoBulk d + 1
  | (_, d) => uptoBulk d + 1
 end
def uptoSmall : (H : Type) → List (DataW H) → Bool := fun _ ds => decide (uptoBulkAll ds ≤ 1048576)
def OpenSpec.upto (s : _root_.Go.ChangeSpec) : _root_.Go.OpenSpec := { _root_.Go.OpenSpec.ofChange s with cond := some uptoSmall }

/-- 'bifoldlaw23.CongPto', WHERE WHAT IT READS IS OF BULK AT MOST 1048576: true; the input reads as it did. -/
def congPtoUptoRow : OpenClaim := { program := "ytnegiagooahncaa", sum := "60ff929aefce5741eabbcf09145c1dce254b22b3f9b32a78491ae4ede6bbd487", func := "bifold/bifoldlaw23.CongPto", spec := "congPto", apart := false, narrowed := true }
def CongPtoUptoSaid : Prop := congPtoUptoRow.holds Try.pinned (OpenSpec.upto congPtoSpec)

/-- 'bifoldlaw23.CongOnce', WHERE WHAT IT READS IS OF BULK AT MOST 1048576: true; the input reads as it did. -/
def congOnceUptoRow : OpenClaim := { program := "ytnegiagooahncaa", sum := "60ff929aefce5741eabbcf09145c1dce254b22b3f9b32a78491ae4ede6bbd487", func := "bifold/bifoldlaw23.CongOnce", spec := "congOnce", apart := false, narrowed := true }
def CongOnceUptoSaid : Prop := congOnceUptoRow.holds Try.pinned (OpenSpec.upto congOnceSpec)

/-- 'bifoldlaw23.CongSlow', WHERE WHAT IT READS IS OF BULK AT MOST 1048576: true; the input reads as it did. -/
def congSlowUptoRow : OpenClaim := { program := "ytnegiagooahncaa", sum := "60ff929aefce5741eabbcf09145c1dce254b22b3f9b32a78491ae4ede6bbd487", func := "bifold/bifoldlaw23.CongSlow", spec := "congSlow", apart := false, narrowed := true }
def CongSlowUptoSaid : Prop := congSlowUptoRow.holds Try.pinned (OpenSpec.upto congSlowSpec)

/-- 'bifoldlaw23.CongPlays', WHERE WHAT IT READS IS OF BULK AT MOST 1048576: true; the input reads as it did. -/
def congPlaysUptoRow : OpenClaim := { program := "ytnegiagooahncaa", sum := "60ff929aefce5741eabbcf09145c1dce254b22b3f9b32a78491ae4ede6bbd487", func := "bifold/bifoldlaw23.CongPlays", spec := "congPlays", apart := false, narrowed := true }
def CongPlaysUptoSaid : Prop := congPlaysUptoRow.holds Try.pinned (OpenSpec.upto congPlaysSpec)

/-- 'bifoldlaw23.CongFloor', WHERE WHAT IT READS IS OF BULK AT MOST 1048576: true; the input reads as it did. -/
def congFloorUptoRow : OpenClaim := { program := "ytnegiagooahncaa", sum := "60ff929aefce5741eabbcf09145c1dce254b22b3f9b32a78491ae4ede6bbd487", func := "bifold/bifoldlaw23.CongFloor", spec := "congFloor", apart := false, narrowed := true }
def CongFloorUptoSaid : Prop := congFloorUptoRow.holds Try.pinned (OpenSpec.upto congFloorSpec)

end Rows
end Go.Proofs.Ytnegiagooahncaa
