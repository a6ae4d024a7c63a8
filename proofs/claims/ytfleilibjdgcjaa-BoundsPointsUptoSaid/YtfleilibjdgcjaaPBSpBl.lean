/- Shaken copy of a longer text: what one law needs. Its conditions: none. -/
import Derived.Test.YtfleilibjdgcjaaPBSpBo
set_option linter.unusedSimpArgs false
set_option linter.unusedVariables false
set_option linter.unusedSimpArgs false
set_option linter.unusedVariables false
set_option linter.unusedSectionVars false
set_option linter.unnecessarySimpa false
namespace Go.Proofs.Ytfleilibjdgcjaa.B
open Go.AI
theorem zGr:pc prog 40 []=some (.bool true):=zHX 60 (by kernel_rfl)
theorem zGs {f:List Node} {a b:Bound} (hr:zaQ f) (ha:zHT f a) (hb:zHT f b) (he:root f a.node=root f b.node):zuS f a b=(cmpL (key f a) (key f b),0):=by
 unfold zuS
 have h0:bfR f [a,b] []=0:=zmP.2 ⟨hr,fun x hx=>by
  simp only[List.mem_cons,List.not_mem_nil,or_false]at hx
  rcases hx with rfl|rfl
  ·exact ha
  ·exact hb,fun x hx=>by cases hx⟩
 rw[if_pos h0,if_pos he]
theorem zDx {f:List Node} (hr:zaQ f) {h:Int} (hh:isN f h) {b:Bound} (hb:b∈zdN f h):zHT f b∧root f h=root f b.node:=by
 obtain⟨h1,h2⟩:=(zin hr h hh b).1 hb
 exact⟨⟨(zmI hr _ h1).2,h2⟩,zsm hr hh _ h1⟩
theorem zGt {f:List Node} (hr:zaQ f) {h:Int} (hh:isN f h) {i:Nat} (hi:i+1<(zdN f h).length):zuS f (zdN f h)[i] (zdN f h)[i+1]=(-1,0):=by
 obtain⟨p1,q1⟩:=zDx hr hh (List.getElem_mem (show i<(zdN f h).length by omega))
 obtain⟨p2,q2⟩:=zDx hr hh (List.getElem_mem hi)
 rw[zGs hr p1 p2 (q1.symm.trans q2),List.pairwise_iff_getElem.1 (zlz hr h hh) i (i+1) (by omega) hi (by omega)]
theorem zCU {f:List Node} (h:Int):(zeR f h).1.l.length≤2^27∧((zeR f h).2==0)=decide (0<((zeR f h).1.l.length:Int))∧∀i (hi:i+1<(zeR f h).1.l.length),zuS f (zeR f h).1.l[i] (zeR f h).1.l[i+1]=(-1,0):=by
 unfold zeR
 by_cases h0:zbj f [h]=0
 ·obtain⟨hr,h1⟩:=zex.1 h0
  have hh:=h1 h (by simp)
  have hne:=List.length_pos_iff.2 (zzy hr hh)
  simp only[if_pos h0]
  exact⟨zmQ hr hh,by simp;omega,fun i hi=>zGt hr hh hi⟩
 ·simp only[if_neg h0]
  exact⟨by simp,by simpa using h0,fun i hi=>by simp at hi⟩
end Go.Proofs.Ytfleilibjdgcjaa.B
