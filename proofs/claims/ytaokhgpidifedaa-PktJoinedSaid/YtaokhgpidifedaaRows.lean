/-
  No cell of these rows narrows 'for every input' (looked for: loops, veiled, ifaces, maps, wideKeys, modest, calm, conditions, laid).
  DERIVED. THE GIVEN ROWS OF THIS SEAT. 2 by the template 'for every input the law returns true; each argument reads behind the call as it read before'; 0 by the template 'total and deterministic' (their statements: YtaokhgpidifedaaTotals.lean).
  GIVEN WITH THE SEED: the statements are not yours to turn. If you find one false, say at which input.
  Laid BY PROGRAM, IN A SANDBOX (cutbox-rows.mjs): the forced cells as the released guide's own fill.sh prints them over the translation faf3eefb1514ed44… (all of the seat's roots in one cut). By AI agents, Wed Nov 11 2026. No macro, syntax, notation, axiom, sorry.
-/
import Derived.Test.YtaokhgpidifedaaChecked
import GoSem.Claim
import GoSem.ClaimJoined
import GoSem.ClaimMapViews
import Derived.JoinedTies
import Derived.KernelRfl
namespace Go.Proofs.Ytaokhgpidifedaa
/- THE CELL 'sum', in the pinned program and in every row, IS THE sha256 OF THE DUMP (.gsa) THAT YtaokhgpidifedaaProg.lean LOADS. Nothing in Lean hashes anything: it is a label: what it is worth is what the hold of that sum in a sandbox is worth. -/
noncomputable def Try.pinned : Pinned := { name := "ytaokhgpidifedaa", sum := "faf3eefb1514ed44ab1601a845262a55b6d786daa1a84b1a95aa257bfb0913ae", checked := Try.checked }
namespace Rows
def none {H : Type} : Left H := { results := [], args := [] }

/-- 'bifoldlaw18.PktJoined': WHATEVER THE INPUT: true; the input reads as it did. -/
def pktJoinedSpec : ChangeSpec := { name := "pktJoined", fn := fun _ => fun
  | [d1, d2, d3] => { results := [.lit (.bool true)], args := [d1, d2, d3] }
  | _ => none }
def pktJoinedRow : OpenClaim := { program := "ytaokhgpidifedaa", sum := "faf3eefb1514ed44ab1601a845262a55b6d786daa1a84b1a95aa257bfb0913ae", func := "bifold/bifoldlaw18.PktJoined", spec := "pktJoined", unfollowed := true, recurses := true, apart := false }
def PktJoinedSaid : Prop := pktJoinedRow.holds Try.pinned (OpenSpec.ofChange pktJoinedSpec)

/-- ITS FALSE NEIGHBOUR: 'it returns false'. Refute it at one input. -/
def pktJoinedWrong : ChangeSpec := { name := "pktJoined", fn := fun _ => fun
  | [d1, d2, d3] => { results := [.lit (.bool false)], args := [d1, d2, d3] }
  | _ => none }
def PktJoinedWrongFalsely : Prop := pktJoinedRow.holds Try.pinned (OpenSpec.ofChange pktJoinedWrong)

/-- 'bifoldlaw18.PktGreat': WHATEVER THE INPUT: true; the input reads as it did. -/
def pktGreatSpec : ChangeSpec := { name := "pktGreat", fn := fun _ => fun
  | [d1, d2, d3] => { results := [.lit (.bool true)], args := [d1, d2, d3] }
  | _ => none }
def pktGreatRow : OpenClaim := { program := "ytaokhgpidifedaa", sum := "faf3eefb1514ed44ab1601a845262a55b6d786daa1a84b1a95aa257bfb0913ae", func := "bifold/bifoldlaw18.PktGreat", spec := "pktGreat", unfollowed := true, recurses := true, apart := false }
def PktGreatSaid : Prop := pktGreatRow.holds Try.pinned (OpenSpec.ofChange pktGreatSpec)

/-- ITS FALSE NEIGHBOUR: 'it returns false'. Refute it at one input. -/
def pktGreatWrong : ChangeSpec := { name := "pktGreat", fn := fun _ => fun
  | [d1, d2, d3] => { results := [.lit (.bool false)], args := [d1, d2, d3] }
  | _ => none }
def PktGreatWrongFalsely : Prop := pktGreatRow.holds Try.pinned (OpenSpec.ofChange pktGreatWrong)

/- THE SECOND FORM. 'bulk': how many values and letters a reading holds, each counted each time it is reached (what is shared counts as often as it is met; a slice's spare places count too). A statement '..UptoSaid' is the law's where the arguments, and the package variables that the reading takes, are together of bulk at most 1048576: NARROWER than '..Said'. Prove '..Said' where nothing that the law and all that it calls make is longer than what came in: it says more and counts as full. Else prove '..UptoSaid'. A law counts once. -/
mutual
def uptoBulk {H : Type} : DataW H → Nat
  | .lit (.string bytes) => bytes.length + 1
  | .lit _ => 1
  | .nil => 1
  | .ptr d => uptoBulk d + 1
  | .slice elems spare => uptoBulkAll elems + uptoBulkAll spare + 1
  | .agg parts => uptoBulkAll parts + 1
  | .iface _ d => uptoBulk d + 1
  | .map entries => uptoBulkEntries entries + 1
  | .held _ => 1
def uptoBulkAll {H : Type} : List (DataW H) → Nat
  | [] => 0
  | d :: r => uptoBulk d + uptoBulkAll r
def uptoBulkEntries {H : Type} : List (Lit × DataW H) → Nat
  | [] => 0
  | x :: r => uptoBulkEntry x + uptoBulkEntries r
def uptoBulkEntry {H : Type} : Lit × DataW H → Nat
  | (.string bytes, d) => bytes.length + uptoBulk d + 1
  | (_, d) => uptoBulk d + 1
 end
def uptoSmall : (H : Type) → List (DataW H) → Bool := fun _ ds => decide (uptoBulkAll ds ≤ 1048576)
def OpenSpec.upto (s : _root_.Go.ChangeSpec) : _root_.Go.OpenSpec := { _root_.Go.OpenSpec.ofChange s with cond := some uptoSmall }

/-- 'bifoldlaw18.PktJoined', WHERE WHAT IT READS IS OF BULK AT MOST 1048576: true; the input reads as it did. -/
def pktJoinedUptoRow : OpenClaim := { program := "ytaokhgpidifedaa", sum := "faf3eefb1514ed44ab1601a845262a55b6d786daa1a84b1a95aa257bfb0913ae", func := "bifold/bifoldlaw18.PktJoined", spec := "pktJoined", unfollowed := true, recurses := true, apart := false, narrowed := true }
def PktJoinedUptoSaid : Prop := pktJoinedUptoRow.holds Try.pinned (OpenSpec.upto pktJoinedSpec)

/-- 'bifoldlaw18.PktGreat', WHERE WHAT IT READS IS OF BULK AT MOST 1048576: true; the input reads as it did. -/
def pktGreatUptoRow : OpenClaim := { program := "ytaokhgpidifedaa", sum := "faf3eefb1514ed44ab1601a845262a55b6d786daa1a84b1a95aa257bfb0913ae", func := "bifold/bifoldlaw18.PktGreat", spec := "pktGreat", unfollowed := true, recurses := true, apart := false, narrowed := true }
def PktGreatUptoSaid : Prop := pktGreatUptoRow.holds Try.pinned (OpenSpec.upto pktGreatSpec)

end Rows
end Go.Proofs.Ytaokhgpidifedaa
