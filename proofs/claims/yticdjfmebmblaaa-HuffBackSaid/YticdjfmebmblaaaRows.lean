/-
  No cell of these rows narrows 'for every input' (looked for: loops, veiled, ifaces, maps, wideKeys, modest, calm, conditions, laid).
  DERIVED. THE GIVEN ROWS OF THIS SEAT. 6 by the template 'for every input the law returns true; each argument reads behind the call as it read before'; 0 by the template 'total and deterministic' (their statements: YticdjfmebmblaaaTotals.lean).
  GIVEN WITH THE SEED: the statements are not yours to turn. If you find one false, say at which input.
  Laid BY PROGRAM, IN A SANDBOX (cutbox-rows.mjs): the forced cells as the released guide's own fill.sh prints them over the translation 98273b7e376fa3a3… (all of the seat's roots in one cut). By AI agents, Wed Nov 11 2026. No macro, syntax, notation, axiom, sorry.
-/
import Derived.Test.YticdjfmebmblaaaChecked
import GoSem.Claim
import GoSem.ClaimJoined
import GoSem.ClaimMapViews
import Derived.JoinedTies
import Derived.KernelRfl
namespace Go.Proofs.Yticdjfmebmblaaa
/- THE CELL 'sum', in the pinned program and in every row, IS THE sha256 OF THE DUMP (.gsa) THAT YticdjfmebmblaaaProg.lean LOADS. Nothing in Lean hashes anything: it is a label: what it is worth is what the hold of that sum in a sandbox is worth. -/
noncomputable def Try.pinned : Pinned := { name := "yticdjfmebmblaaa", sum := "98273b7e376fa3a38af288fee1758042cfb214e41446096060f370c83f063714", checked := Try.checked }
namespace Rows
def none {H : Type} : Left H := { results := [], args := [] }

/-- 'bifoldlaw2.HuffBack': WHATEVER THE INPUT: true; the input reads as it did. -/
def huffBackSpec : ChangeSpec := { name := "huffBack", fn := fun _ => fun
  | [d1, d2] => { results := [.lit (.bool true)], args := [d1, d2] }
  | _ => none }
def huffBackRow : OpenClaim := { program := "yticdjfmebmblaaa", sum := "98273b7e376fa3a38af288fee1758042cfb214e41446096060f370c83f063714", func := "bifold/bifoldlaw2.HuffBack", spec := "huffBack", apart := false }
def HuffBackSaid : Prop := huffBackRow.holds Try.pinned (OpenSpec.ofChange huffBackSpec)

/-- ITS FALSE NEIGHBOUR: 'it returns false'. Refute it at one input. -/
def huffBackWrong : ChangeSpec := { name := "huffBack", fn := fun _ => fun
  | [d1, d2] => { results := [.lit (.bool false)], args := [d1, d2] }
  | _ => none }
def HuffBackWrongFalsely : Prop := huffBackRow.holds Try.pinned (OpenSpec.ofChange huffBackWrong)

/-- 'bifoldlaw2.HuffReads': WHATEVER THE INPUT: true; the input reads as it did. -/
def huffReadsSpec : ChangeSpec := { name := "huffReads", fn := fun _ => fun
  | [d] => { results := [.lit (.bool true)], args := [d] }
  | _ => none }
def huffReadsRow : OpenClaim := { program := "yticdjfmebmblaaa", sum := "98273b7e376fa3a38af288fee1758042cfb214e41446096060f370c83f063714", func := "bifold/bifoldlaw2.HuffReads", spec := "huffReads", apart := false }
def HuffReadsSaid : Prop := huffReadsRow.holds Try.pinned (OpenSpec.ofChange huffReadsSpec)

/-- ITS FALSE NEIGHBOUR: 'it returns false'. Refute it at one input. -/
def huffReadsWrong : ChangeSpec := { name := "huffReads", fn := fun _ => fun
  | [d] => { results := [.lit (.bool false)], args := [d] }
  | _ => none }
def HuffReadsWrongFalsely : Prop := huffReadsRow.holds Try.pinned (OpenSpec.ofChange huffReadsWrong)

/-- 'bifoldlaw2.HuffCodes': WHATEVER THE INPUT: true; the input reads as it did. -/
def huffCodesSpec : ChangeSpec := { name := "huffCodes", fn := fun _ => fun
  | [d1, d2] => { results := [.lit (.bool true)], args := [d1, d2] }
  | _ => none }
def huffCodesRow : OpenClaim := { program := "yticdjfmebmblaaa", sum := "98273b7e376fa3a38af288fee1758042cfb214e41446096060f370c83f063714", func := "bifold/bifoldlaw2.HuffCodes", spec := "huffCodes", apart := false }
def HuffCodesSaid : Prop := huffCodesRow.holds Try.pinned (OpenSpec.ofChange huffCodesSpec)

/-- ITS FALSE NEIGHBOUR: 'it returns false'. Refute it at one input. -/
def huffCodesWrong : ChangeSpec := { name := "huffCodes", fn := fun _ => fun
  | [d1, d2] => { results := [.lit (.bool false)], args := [d1, d2] }
  | _ => none }
def HuffCodesWrongFalsely : Prop := huffCodesRow.holds Try.pinned (OpenSpec.ofChange huffCodesWrong)

/-- 'bifoldlaw2.HuffEnds': WHATEVER THE INPUT: true; the input reads as it did. -/
def huffEndsSpec : ChangeSpec := { name := "huffEnds", fn := fun _ => fun
  | [d1, d2, d3] => { results := [.lit (.bool true)], args := [d1, d2, d3] }
  | _ => none }
def huffEndsRow : OpenClaim := { program := "yticdjfmebmblaaa", sum := "98273b7e376fa3a38af288fee1758042cfb214e41446096060f370c83f063714", func := "bifold/bifoldlaw2.HuffEnds", spec := "huffEnds", apart := false }
def HuffEndsSaid : Prop := huffEndsRow.holds Try.pinned (OpenSpec.ofChange huffEndsSpec)

/-- ITS FALSE NEIGHBOUR: 'it returns false'. Refute it at one input. -/
def huffEndsWrong : ChangeSpec := { name := "huffEnds", fn := fun _ => fun
  | [d1, d2, d3] => { results := [.lit (.bool false)], args := [d1, d2, d3] }
  | _ => none }
def HuffEndsWrongFalsely : Prop := huffEndsRow.holds Try.pinned (OpenSpec.ofChange huffEndsWrong)

/-- 'bifoldlaw2.HuffLong': WHATEVER THE INPUT: true; the input reads as it did. -/
def huffLongSpec : ChangeSpec := { name := "huffLong", fn := fun _ => fun
  | [d1, d2] => { results := [.lit (.bool true)], args := [d1, d2] }
  | _ => none }
def huffLongRow : OpenClaim := { program := "yticdjfmebmblaaa", sum := "98273b7e376fa3a38af288fee1758042cfb214e41446096060f370c83f063714", func := "bifold/bifoldlaw2.HuffLong", spec := "huffLong", apart := false }
def HuffLongSaid : Prop := huffLongRow.holds Try.pinned (OpenSpec.ofChange huffLongSpec)

/-- ITS FALSE NEIGHBOUR: 'it returns false'. Refute it at one input. -/
def huffLongWrong : ChangeSpec := { name := "huffLong", fn := fun _ => fun
  | [d1, d2] => { results := [.lit (.bool false)], args := [d1, d2] }
  | _ => none }
def HuffLongWrongFalsely : Prop := huffLongRow.holds Try.pinned (OpenSpec.ofChange huffLongWrong)

/-- 'bifoldlaw2.HuffBits': WHATEVER THE INPUT: true; the input reads as it did. -/
def huffBitsSpec : ChangeSpec := { name := "huffBits", fn := fun _ => fun
  | [d] => { results := [.lit (.bool true)], args := [d] }
  | _ => none }
def huffBitsRow : OpenClaim := { program := "yticdjfmebmblaaa", sum := "98273b7e376fa3a38af288fee1758042cfb214e41446096060f370c83f063714", func := "bifold/bifoldlaw2.HuffBits", spec := "huffBits", apart := false }
def HuffBitsSaid : Prop := huffBitsRow.holds Try.pinned (OpenSpec.ofChange huffBitsSpec)

/-- ITS FALSE NEIGHBOUR: 'it returns false'. Refute it at one input. -/
def huffBitsWrong : ChangeSpec := { name := "huffBits", fn := fun _ => fun
  | [d] => { results := [.lit (.bool false)], args := [d] }
  | _ => none }
def HuffBitsWrongFalsely : Prop := huffBitsRow.holds Try.pinned (OpenSpec.ofChange huffBitsWrong)

/- THE SECOND FORM. 'bulk': how many values and letters a reading holds, each counted each time it is reached (what is shared counts as often as it is met; a slice's spare places count too). A statement '..UptoSaid' is the law's where the arguments, and the package variables that the reading takes, are together of bulk at most 1048576: NARROWER than '..Said'. Prove '..Said' where nothing that the law and all that it calls make is longer than what came in: it says more and counts as full. Else prove '..UptoSaid'. A law counts once. -/
mutual
def uptoBulk {H : Type} : DataW H → Nat
  | .lit (.string bytes) => bytes.length + 1
  | .lit _ => 1
  | .nil => 1
  | .ptr d => uptoBulk d + 1
  | .slice elems spare => uptoBulkAll elems + uptoBulkAll spare + 1
  | .agg parts => uptoBulkAll parts + 1
  | .iface _ d => uptoBulk d + 1
  | .map entries => uptoBulkEntries entries + 1
  | .held _ => 1
def uptoBulkAll {H : Type} : List (DataW H) → Nat
  | [] => 0
  | d :: r => uptoBulk d + uptoBulkAll r
def uptoBulkEntries {H : Type} : List (Lit × DataW H) → Nat
  | [] => 0
  | x :: r => uptoBulkEntry x + uptoBulkEntries r
def uptoBulkEntry {H : Type} : Lit × DataW H → Nat
  | (.string bytes, d) => bytes.length + uptoBulk d + 1
  | (_, d) => uptoBulk d + 1
 end
def uptoSmall : (H : Type) → List (DataW H) → Bool := fun _ ds => decide (uptoBulkAll ds ≤ 1048576)
def OpenSpec.upto (s : _root_.Go.ChangeSpec) : _root_.Go.OpenSpec := { _root_.Go.OpenSpec.ofChange s with cond := some uptoSmall }

/-- 'bifoldlaw2.HuffBack', WHERE WHAT IT READS IS OF BULK AT MOST 1048576: true; the input reads as it did. -/
def huffBackUptoRow : OpenClaim := { program := "yticdjfmebmblaaa", sum := "98273b7e376fa3a38af288fee1758042cfb214e41446096060f370c83f063714", func := "bifold/bifoldlaw2.HuffBack", spec := "huffBack", apart := false, narrowed := true }
def HuffBackUptoSaid : Prop := huffBackUptoRow.holds Try.pinned (OpenSpec.upto huffBackSpec)

/-- 'bifoldlaw2.HuffReads', WHERE WHAT IT READS IS OF BULK AT MOST 1048576: true; the input reads as it did. -/
def huffReadsUptoRow : OpenClaim := { program := "yticdjfmebmblaaa", sum := "98273b7e376fa3a38af288fee1758042cfb214e41446096060f370c83f063714", func := "bifold/bifoldlaw2.HuffReads", spec := "huffReads", apart := false, narrowed := true }
def HuffReadsUptoSaid : Prop := huffReadsUptoRow.holds Try.pinned (OpenSpec.upto huffReadsSpec)

/-- 'bifoldlaw2.HuffCodes', WHERE WHAT IT READS IS OF BULK AT MOST 1048576: true; the input reads as it did. -/
def huffCodesUptoRow : OpenClaim := { program := "yticdjfmebmblaaa", sum := "98273b7e376fa3a38af288fee1758042cfb214e41446096060f370c83f063714", func := "bifold/bifoldlaw2.HuffCodes", spec := "huffCodes", apart := false, narrowed := true }
def HuffCodesUptoSaid : Prop := huffCodesUptoRow.holds Try.pinned (OpenSpec.upto huffCodesSpec)

/-- 'bifoldlaw2.HuffEnds', WHERE WHAT IT READS IS OF BULK AT MOST 1048576: true; the input reads as it did. -/
def huffEndsUptoRow : OpenClaim := { program := "yticdjfmebmblaaa", sum := "98273b7e376fa3a38af288fee1758042cfb214e41446096060f370c83f063714", func := "bifold/bifoldlaw2.HuffEnds", spec := "huffEnds", apart := false, narrowed := true }
def HuffEndsUptoSaid : Prop := huffEndsUptoRow.holds Try.pinned (OpenSpec.upto huffEndsSpec)

/-- 'bifoldlaw2.HuffLong', WHERE WHAT IT READS IS OF BULK AT MOST 1048576: true; the input reads as it did. -/
def huffLongUptoRow : OpenClaim := { program := "yticdjfmebmblaaa", sum := "98273b7e376fa3a38af288fee1758042cfb214e41446096060f370c83f063714", func := "bifold/bifoldlaw2.HuffLong", spec := "huffLong", apart := false, narrowed := true }
def HuffLongUptoSaid : Prop := huffLongUptoRow.holds Try.pinned (OpenSpec.upto huffLongSpec)

/-- 'bifoldlaw2.HuffBits', WHERE WHAT IT READS IS OF BULK AT MOST 1048576: true; the input reads as it did. -/
def huffBitsUptoRow : OpenClaim := { program := "yticdjfmebmblaaa", sum := "98273b7e376fa3a38af288fee1758042cfb214e41446096060f370c83f063714", func := "bifold/bifoldlaw2.HuffBits", spec := "huffBits", apart := false, narrowed := true }
def HuffBitsUptoSaid : Prop := huffBitsUptoRow.holds Try.pinned (OpenSpec.upto huffBitsSpec)

end Rows
end Go.Proofs.Yticdjfmebmblaaa
