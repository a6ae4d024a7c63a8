/- Shaken copy of a longer text: what one law needs. Its conditions: none. -/
import Derived.Test.YthodcjjgimeeoaaYPSpFo9
set_option linter.unusedSimpArgs false
set_option linter.unusedVariables false
set_option linter.unusedSimpArgs false
set_option linter.unusedVariables false
set_option linter.unusedSectionVars false
set_option linter.unnecessarySimpa false
namespace Go.Proofs.Ythodcjjgimeeoaa.P
open Go.AI
def upP (f:List Node):Nat→Int→List Int
 |0,_=>[]
 |n+1,h=>if isN f h then h::upP f n (nx f h)else[]
def upc (f:List Node) (h:Int):List Int:=upP f (f.length+1) h
theorem below {f:List Node} (hr:zcE f) {h k:Int} (hk:isN f k) (e:nx f k=h) (hh:isN f h):k∈kidsL f h∨((nodeD f h).shadow≠0∧(nodeD f h).shadow=k):=by
 unfold nx zjl at e
 by_cases h12:(nodeD f k).kind=12
 ·rw[if_pos (by simp[h12])]at e
  have:=(zlp hr hk).host h12
  rw[e]at this
  right
  refine⟨?_,this.2.2.1⟩
  rw[this.2.2.1];intro h0;rw[h0]at hk;exact zgE hk
 ·rw[if_neg (by simp[h12])]at e
  exact .inl ((zDA hr hh).2 ⟨hk,e⟩)
end Go.Proofs.Ythodcjjgimeeoaa.P
