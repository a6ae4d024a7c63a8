/- Shaken copy of a longer text: what one law needs. Its conditions: none. -/
import Derived.Test.YtnijbejobbajfaaZDSpDisp5
set_option linter.unusedSimpArgs false
set_option linter.unusedVariables false
set_option linter.unusedSectionVars false
set_option linter.unnecessarySimpa false
namespace Go.Proofs.Ytnijbejobbajfaa.D
open Go.AI
def phaseP (s : Step) (cap : Bool) : Int := if s.target = 0 then (if cap then 1 else 3) else 2
def stayP (r : Run) (ph : Int) : Bool := (ph == 3 && !r.event.bubbles) || r.event.stop
def turnAt (l : Listeners) (r : Run) (at_ : Nat) (cap : Bool) (s : Step) : Run :=
  if stayP r (phaseP s cap) = true then { r with turn := r.turn + 1 } else
  { r with turn := r.turn + 1, event := { r.event with phase := phaseP s cap, current := s.item, target := targetL (r.path.l.take (at_ + 1)) 0, related := s.related }, due := (due l s.item r.event.type_ (phaseP s cap) cap).1 }
end Go.Proofs.Ytnijbejobbajfaa.D
