/-
  No cell of these rows narrows 'for every input' (looked for: loops, veiled, ifaces, maps, wideKeys, modest, calm, conditions, laid).
  DERIVED. THE GIVEN ROWS OF THIS SEAT. 6 by the template 'for every input the law returns true; each argument reads behind the call as it read before'; 0 by the template 'total and deterministic' (their statements: YtgfkgmmigbpciaaTotals.lean).
  GIVEN WITH THE SEED: the statements are not yours to turn. If you find one false, say at which input.
  Laid BY PROGRAM, IN A SANDBOX (cutbox-rows.mjs): the forced cells as the released guide's own fill.sh prints them over the translation 6ec47fdf60389e57… (all of the seat's roots in one cut). By AI agents, Wed Nov 11 2026. No macro, syntax, notation, axiom, sorry.
-/
import Derived.Test.YtgfkgmmigbpciaaChecked
import GoSem.Claim
import GoSem.ClaimJoined
import GoSem.ClaimMapViews
import Derived.JoinedTies
import Derived.KernelRfl
namespace Go.Proofs.Ytgfkgmmigbpciaa
/- THE CELL 'sum', in the pinned program and in every row, IS THE sha256 OF THE DUMP (.gsa) THAT YtgfkgmmigbpciaaProg.lean LOADS. Nothing in Lean hashes anything: it is a label: what it is worth is what the hold of that sum in a sandbox is worth. -/
noncomputable def Try.pinned : Pinned := { name := "ytgfkgmmigbpciaa", sum := "6ec47fdf60389e5775950939a5c17d6b41c4546a5b551e01a2145cc15eca26c7", checked := Try.checked }
namespace Rows
def none {H : Type} : Left H := { results := [], args := [] }

/-- 'bifoldlaw19.QframeWrites': WHATEVER THE INPUT: true; the input reads as it did. -/
def qframeWritesSpec : ChangeSpec := { name := "qframeWrites", fn := fun _ => fun
  | [d1, d2] => { results := [.lit (.bool true)], args := [d1, d2] }
  | _ => none }
def qframeWritesRow : OpenClaim := { program := "ytgfkgmmigbpciaa", sum := "6ec47fdf60389e5775950939a5c17d6b41c4546a5b551e01a2145cc15eca26c7", func := "bifold/bifoldlaw19.QframeWrites", spec := "qframeWrites", unfollowed := true, recurses := true, apart := false }
def QframeWritesSaid : Prop := qframeWritesRow.holds Try.pinned (OpenSpec.ofChange qframeWritesSpec)

/-- ITS FALSE NEIGHBOUR: 'it returns false'. Refute it at one input. -/
def qframeWritesWrong : ChangeSpec := { name := "qframeWrites", fn := fun _ => fun
  | [d1, d2] => { results := [.lit (.bool false)], args := [d1, d2] }
  | _ => none }
def QframeWritesWrongFalsely : Prop := qframeWritesRow.holds Try.pinned (OpenSpec.ofChange qframeWritesWrong)

/-- 'bifoldlaw19.QframeBack': WHATEVER THE INPUT: true; the input reads as it did. -/
def qframeBackSpec : ChangeSpec := { name := "qframeBack", fn := fun _ => fun
  | [d] => { results := [.lit (.bool true)], args := [d] }
  | _ => none }
def qframeBackRow : OpenClaim := { program := "ytgfkgmmigbpciaa", sum := "6ec47fdf60389e5775950939a5c17d6b41c4546a5b551e01a2145cc15eca26c7", func := "bifold/bifoldlaw19.QframeBack", spec := "qframeBack", unfollowed := true, recurses := true, apart := false }
def QframeBackSaid : Prop := qframeBackRow.holds Try.pinned (OpenSpec.ofChange qframeBackSpec)

/-- ITS FALSE NEIGHBOUR: 'it returns false'. Refute it at one input. -/
def qframeBackWrong : ChangeSpec := { name := "qframeBack", fn := fun _ => fun
  | [d] => { results := [.lit (.bool false)], args := [d] }
  | _ => none }
def QframeBackWrongFalsely : Prop := qframeBackRow.holds Try.pinned (OpenSpec.ofChange qframeBackWrong)

/-- 'bifoldlaw19.QframeLimits': WHATEVER THE INPUT: true; the input reads as it did. -/
def qframeLimitsSpec : ChangeSpec := { name := "qframeLimits", fn := fun _ => fun
  | [d1, d2, d3] => { results := [.lit (.bool true)], args := [d1, d2, d3] }
  | _ => none }
def qframeLimitsRow : OpenClaim := { program := "ytgfkgmmigbpciaa", sum := "6ec47fdf60389e5775950939a5c17d6b41c4546a5b551e01a2145cc15eca26c7", func := "bifold/bifoldlaw19.QframeLimits", spec := "qframeLimits", unfollowed := true, recurses := true, apart := false }
def QframeLimitsSaid : Prop := qframeLimitsRow.holds Try.pinned (OpenSpec.ofChange qframeLimitsSpec)

/-- ITS FALSE NEIGHBOUR: 'it returns false'. Refute it at one input. -/
def qframeLimitsWrong : ChangeSpec := { name := "qframeLimits", fn := fun _ => fun
  | [d1, d2, d3] => { results := [.lit (.bool false)], args := [d1, d2, d3] }
  | _ => none }
def QframeLimitsWrongFalsely : Prop := qframeLimitsRow.holds Try.pinned (OpenSpec.ofChange qframeLimitsWrong)

/-- 'bifoldlaw19.QframeReads': WHATEVER THE INPUT: true; the input reads as it did. -/
def qframeReadsSpec : ChangeSpec := { name := "qframeReads", fn := fun _ => fun
  | [d1, d2, d3, d4, d5] => { results := [.lit (.bool true)], args := [d1, d2, d3, d4, d5] }
  | _ => none }
def qframeReadsRow : OpenClaim := { program := "ytgfkgmmigbpciaa", sum := "6ec47fdf60389e5775950939a5c17d6b41c4546a5b551e01a2145cc15eca26c7", func := "bifold/bifoldlaw19.QframeReads", spec := "qframeReads", unfollowed := true, recurses := true, apart := false }
def QframeReadsSaid : Prop := qframeReadsRow.holds Try.pinned (OpenSpec.ofChange qframeReadsSpec)

/-- ITS FALSE NEIGHBOUR: 'it returns false'. Refute it at one input. -/
def qframeReadsWrong : ChangeSpec := { name := "qframeReads", fn := fun _ => fun
  | [d1, d2, d3, d4, d5] => { results := [.lit (.bool false)], args := [d1, d2, d3, d4, d5] }
  | _ => none }
def QframeReadsWrongFalsely : Prop := qframeReadsRow.holds Try.pinned (OpenSpec.ofChange qframeReadsWrong)

/-- 'bifoldlaw19.QframeAcks': WHATEVER THE INPUT: true; the input reads as it did. -/
def qframeAcksSpec : ChangeSpec := { name := "qframeAcks", fn := fun _ => fun
  | [d1, d2, d3, d4] => { results := [.lit (.bool true)], args := [d1, d2, d3, d4] }
  | _ => none }
def qframeAcksRow : OpenClaim := { program := "ytgfkgmmigbpciaa", sum := "6ec47fdf60389e5775950939a5c17d6b41c4546a5b551e01a2145cc15eca26c7", func := "bifold/bifoldlaw19.QframeAcks", spec := "qframeAcks", unfollowed := true, recurses := true, apart := false }
def QframeAcksSaid : Prop := qframeAcksRow.holds Try.pinned (OpenSpec.ofChange qframeAcksSpec)

/-- ITS FALSE NEIGHBOUR: 'it returns false'. Refute it at one input. -/
def qframeAcksWrong : ChangeSpec := { name := "qframeAcks", fn := fun _ => fun
  | [d1, d2, d3, d4] => { results := [.lit (.bool false)], args := [d1, d2, d3, d4] }
  | _ => none }
def QframeAcksWrongFalsely : Prop := qframeAcksRow.holds Try.pinned (OpenSpec.ofChange qframeAcksWrong)

/-- 'bifoldlaw19.QframeEnds': WHATEVER THE INPUT: true; the input reads as it did. -/
def qframeEndsSpec : ChangeSpec := { name := "qframeEnds", fn := fun _ => fun
  | [d1, d2, d3, d4] => { results := [.lit (.bool true)], args := [d1, d2, d3, d4] }
  | _ => none }
def qframeEndsRow : OpenClaim := { program := "ytgfkgmmigbpciaa", sum := "6ec47fdf60389e5775950939a5c17d6b41c4546a5b551e01a2145cc15eca26c7", func := "bifold/bifoldlaw19.QframeEnds", spec := "qframeEnds", unfollowed := true, recurses := true, apart := false }
def QframeEndsSaid : Prop := qframeEndsRow.holds Try.pinned (OpenSpec.ofChange qframeEndsSpec)

/-- ITS FALSE NEIGHBOUR: 'it returns false'. Refute it at one input. -/
def qframeEndsWrong : ChangeSpec := { name := "qframeEnds", fn := fun _ => fun
  | [d1, d2, d3, d4] => { results := [.lit (.bool false)], args := [d1, d2, d3, d4] }
  | _ => none }
def QframeEndsWrongFalsely : Prop := qframeEndsRow.holds Try.pinned (OpenSpec.ofChange qframeEndsWrong)

/- THE SECOND FORM. 'bulk': how many values and letters a reading holds, each counted each time it is reached (what is shared counts as often as it is met; a slice's spare places count too). A statement '..UptoSaid' is the law's where the arguments, and the package variables that the reading takes, are together of bulk at most 1048576: NARROWER than '..Said'. Prove '..Said' where nothing that the law and all that it calls make is longer than what came in: it says more and counts as full. Else prove '..UptoSaid'. A law counts once. -/
mutual
def uptoBulk {H : Type} : DataW H → Nat
  | .lit (.string bytes) => bytes.length + 1
  | .lit _ => 1
  | .nil => 1
  | .ptr d => uptoBulk d + 1
  | .slice elems spare => uptoBulkAll elems + uptoBulkAll spare + 1
  | .agg parts => uptoBulkAll parts + 1
  | .iface _ d => uptoBulk d + 1
  | .map entries => uptoBulkEntries entries + 1
  | .held _ => 1
def uptoBulkAll {H : Type} : List (DataW H) → Nat
  | [] => 0
  | d :: r => uptoBulk d + uptoBulkAll r
def uptoBulkEntries {H : Type} : List (Lit × DataW H) → Nat
  | [] => 0
  | x :: r => uptoBulkEntry x + uptoBulkEntries r
def uptoBulkEntry {H : Type} : Lit × DataW H → Nat
  | (.string bytes, d) => bytes.length + uptoBulk d + 1
  | (_, d) => uptoBulk d + 1
 end
def uptoSmall : (H : Type) → List (DataW H) → Bool := fun _ ds => decide (uptoBulkAll ds ≤ 1048576)
def OpenSpec.upto (s : _root_.Go.ChangeSpec) : _root_.Go.OpenSpec := { _root_.Go.OpenSpec.ofChange s with cond := some uptoSmall }

/-- 'bifoldlaw19.QframeWrites', WHERE WHAT IT READS IS OF BULK AT MOST 1048576: true; the input reads as it did. -/
def qframeWritesUptoRow : OpenClaim := { program := "ytgfkgmmigbpciaa", sum := "6ec47fdf60389e5775950939a5c17d6b41c4546a5b551e01a2145cc15eca26c7", func := "bifold/bifoldlaw19.QframeWrites", spec := "qframeWrites", unfollowed := true, recurses := true, apart := false, narrowed := true }
def QframeWritesUptoSaid : Prop := qframeWritesUptoRow.holds Try.pinned (OpenSpec.upto qframeWritesSpec)

/-- 'bifoldlaw19.QframeBack', WHERE WHAT IT READS IS OF BULK AT MOST 1048576: true; the input reads as it did. -/
def qframeBackUptoRow : OpenClaim := { program := "ytgfkgmmigbpciaa", sum := "6ec47fdf60389e5775950939a5c17d6b41c4546a5b551e01a2145cc15eca26c7", func := "bifold/bifoldlaw19.QframeBack", spec := "qframeBack", unfollowed := true, recurses := true, apart := false, narrowed := true }
def QframeBackUptoSaid : Prop := qframeBackUptoRow.holds Try.pinned (OpenSpec.upto qframeBackSpec)

/-- 'bifoldlaw19.QframeLimits', WHERE WHAT IT READS IS OF BULK AT MOST 1048576: true; the input reads as it did. -/
def qframeLimitsUptoRow : OpenClaim := { program := "ytgfkgmmigbpciaa", sum := "6ec47fdf60389e5775950939a5c17d6b41c4546a5b551e01a2145cc15eca26c7", func := "bifold/bifoldlaw19.QframeLimits", spec := "qframeLimits", unfollowed := true, recurses := true, apart := false, narrowed := true }
def QframeLimitsUptoSaid : Prop := qframeLimitsUptoRow.holds Try.pinned (OpenSpec.upto qframeLimitsSpec)

/-- 'bifoldlaw19.QframeReads', WHERE WHAT IT READS IS OF BULK AT MOST 1048576: true; the input reads as it did. -/
def qframeReadsUptoRow : OpenClaim := { program := "ytgfkgmmigbpciaa", sum := "6ec47fdf60389e5775950939a5c17d6b41c4546a5b551e01a2145cc15eca26c7", func := "bifold/bifoldlaw19.QframeReads", spec := "qframeReads", unfollowed := true, recurses := true, apart := false, narrowed := true }
def QframeReadsUptoSaid : Prop := qframeReadsUptoRow.holds Try.pinned (OpenSpec.upto qframeReadsSpec)

/-- 'bifoldlaw19.QframeAcks', WHERE WHAT IT READS IS OF BULK AT MOST 1048576: true; the input reads as it did. -/
def qframeAcksUptoRow : OpenClaim := { program := "ytgfkgmmigbpciaa", sum := "6ec47fdf60389e5775950939a5c17d6b41c4546a5b551e01a2145cc15eca26c7", func := "bifold/bifoldlaw19.QframeAcks", spec := "qframeAcks", unfollowed := true, recurses := true, apart := false, narrowed := true }
def QframeAcksUptoSaid : Prop := qframeAcksUptoRow.holds Try.pinned (OpenSpec.upto qframeAcksSpec)

/-- 'bifoldlaw19.QframeEnds', WHERE WHAT IT READS IS OF BULK AT MOST 1048576: true; the input reads as it did. -/
def qframeEndsUptoRow : OpenClaim := { program := "ytgfkgmmigbpciaa", sum := "6ec47fdf60389e5775950939a5c17d6b41c4546a5b551e01a2145cc15eca26c7", func := "bifold/bifoldlaw19.QframeEnds", spec := "qframeEnds", unfollowed := true, recurses := true, apart := false, narrowed := true }
def QframeEndsUptoSaid : Prop := qframeEndsUptoRow.holds Try.pinned (OpenSpec.upto qframeEndsSpec)

end Rows
end Go.Proofs.Ytgfkgmmigbpciaa
