/- The order of frames on a request's stream and on a control stream, in plain Lean. -/
import Derived.Test.YtaelhcoeejpglaaV
namespace Go.Proofs.Ytaelhcoeejpglaa
open Go.RowKit

def oldB (t : Int) : Bool := t == 2 || t == 6 || t == 8 || t == 9
def reqMap (s t : Int) : Option Int := if s = 0 ∧ t = 1 then some 1 else if s = 1 ∧ t = 1 then some 3 else if s = 2 ∧ t = 1 then some 3 else if s = 1 ∧ t = 0 then some 2 else if s = 2 ∧ t = 0 then some 2 else none
def badT (t : Int) : Bool := t == 1 || t == 0 || oldB t || t == 3 || t == 4 || t == 5 || t == 7 || t == 13
def req (s t : Int) : Int × Int :=
  if s < 0 ∨ s > 3 then (s, 9) else match reqMap s t with
  | some to => (to, 0)
  | none => if badT t then (s, 9) else (s, 0)
def ctl (s t : Int) (srv : Bool) : Int × Int :=
  if s = 0 then (if t = 4 then (1, 0) else (0, 4)) else if s ≠ 1 then (s, 9) else if t = 4 ∨ t = 0 ∨ t = 1 ∨ t = 5 ∨ (t = 13 ∧ srv = false) ∨ oldB t = true then (1, 9) else (1, 0)

end Go.Proofs.Ytaelhcoeejpglaa
