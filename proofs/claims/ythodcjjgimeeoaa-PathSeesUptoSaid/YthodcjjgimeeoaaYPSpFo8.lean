/- Shaken copy of a longer text: what one law needs. Its conditions: none. -/
import Derived.Test.YthodcjjgimeeoaaYPSpFo7
set_option linter.unusedSimpArgs false
set_option linter.unusedVariables false
set_option linter.unusedSimpArgs false
set_option linter.unusedVariables false
set_option linter.unusedSectionVars false
set_option linter.unnecessarySimpa false
namespace Go.Proofs.Ythodcjjgimeeoaa.P
open Go.AI
def idx (l:List Int) (x:Int):Int:=match l.findIdx? (· ==x)with|some k=>(k:Int)|none=> -1
def plc (f:List Node) (h:Int):Int:=max (idx (kidsL f (par f h)) h) 0
def way (f:List Node) (h:Int):List Int:=((anc f h).map (plc f)).reverse
end Go.Proofs.Ythodcjjgimeeoaa.P
