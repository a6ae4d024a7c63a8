/- Shaken copy of a longer text: what one law needs. Its conditions: none. -/
import Derived.Test.YthodcjjgimeeoaaYPSpSh
import Derived.Test.YthodcjjgimeeoaaYPDecQ
import Derived.Test.YthodcjjgimeeoaaYPSpUp
set_option linter.unusedSimpArgs false
set_option linter.unusedVariables false
set_option linter.unusedSimpArgs false
set_option linter.unusedVariables false
set_option linter.unusedSectionVars false
set_option linter.unnecessarySimpa false
namespace Go.Proofs.Ythodcjjgimeeoaa.P
open Go.AI
theorem znt (f:Forest) (h:Int) (hf:Fit f.nodes.l) (hr:zcE f.nodes.l) (hh:isN f.nodes.l h):pc prog 84 [zam f,.int .i64 h]=some (zaj (nodeD f.nodes.l (root f.nodes.l h))):=by
 refine zKS f h _ ?_
 unfold P84
 rw[zAz f h hf hr hh,zaz (e:=D.int .i64),Option.bind_some,zBn f _ hf.1,zaz (e:=zaj),Option.bind_some]
section
variable (f:Forest) (hand:Sl Assign) (org rel:Int) (comp:Bool)
end
theorem zGE {f:List Node} (hr:zcE f) (x:Int):zfB f [x]=if isN f x then 0 else 2:=by
 unfold zfB
 rw[if_pos (zhj.2 hr)]
 by_cases h:isN f x
 ·rw[if_pos h,if_pos (by simpa using h)]
 ·rw[if_neg h,if_neg (by simpa using h)]
end Go.Proofs.Ythodcjjgimeeoaa.P
