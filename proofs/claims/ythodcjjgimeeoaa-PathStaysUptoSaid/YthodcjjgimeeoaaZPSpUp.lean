/- Shaken copy of a longer text: what one law needs. Its conditions: none. -/
import Derived.Test.YthodcjjgimeeoaaZPSpDp
import Derived.Test.YthodcjjgimeeoaaZPSpFlt
set_option linter.unusedSimpArgs false
set_option linter.unusedVariables false
set_option linter.unusedSimpArgs false
set_option linter.unusedVariables false
set_option linter.unusedSectionVars false
set_option linter.unnecessarySimpa false
namespace Go.Proofs.Ythodcjjgimeeoaa.P
open Go.AI
theorem zIm (f:Forest) (h:Int) (hf:Fit f.nodes.l):pc prog 174 [zae f,.int .i64 h]=some (.int .i64 (nx f.nodes.l h)):=by
 refine zKJ f h _ ?_
 unfold zKI
 rw[zeo f h hf.1,zaA (e:=zam),Option.bind_some]
 unfold nx zfW
 split<;>rfl
theorem zkR (f:Forest) (a b:Int) (hf:Fit f.nodes.l):pc prog 93 [zae f,.int .i64 a,.int .i64 b]=some (eT2 D.bool (D.int .i64) (if zbV f.nodes.l [a,b]=0 then(decide (a∈upc f.nodes.l b),0)else(false,zbV f.nodes.l [a,b]))):=by
 by_cases h0:zbV f.nodes.l [a,b]=0
 case neg=>rw[if_neg h0];exact zCa f a b hf h0
 rw[if_pos h0]
 refine zLZ f a b _ ?_
 unfold P93
 rw[zoo f a b hf,zaA (e:=D.int .i64),Option.bind_some,if_neg (by simp[h0])]
 obtain⟨hr,hab⟩:=zfy.1 h0
 obtain⟨ha,hb⟩:=zqh.1 hab
 have key:∀x,(x=0∨isN f.nodes.l x)→zaU (zcN f a b) x=some (if a∈upc f.nodes.l x then .inr a else .inl 0):=by
  refine zeZ hr (fun x hx hk=> ?_) fun x hx ih _=> ?_
  ·obtain rfl:=hk.resolve_right hx
   rw[zdJ zbe]
   exact zaH (by simp only[zcN];rfl)
  ·have hne:(!(x==0))=true:=by unfold isN at hx;simp;omega
   rw[zdT hr hx]
   by_cases e:x=a
   ·subst e
    rw[if_pos List.mem_cons_self]
    refine zaH ?_
    simp only[zcN]
    rw[if_pos hne,if_pos (by simp)]
   ·rw[zaP (y:=nx f.nodes.l x)]
    ·have hm:(a∈x::upc f.nodes.l (nx f.nodes.l x))=(a∈upc f.nodes.l (nx f.nodes.l x)):=by
      rw[List.mem_cons];exact propext ⟨fun h=>h.resolve_left (fun y=>e y.symm),.inr⟩
     simp only[hm]
     exact ih (zFf hr x)
    ·simp only[zcN]
     rw[if_pos hne,if_neg (by simpa using e),zIm f _ hf,zaA (e:=D.int .i64)];rfl
 rw[key b (.inr hb),Option.bind_some]
 by_cases h:a∈upc f.nodes.l b
 ·rw[if_pos h,decide_eq_true h]
 ·rw[if_neg h,decide_eq_false h]
end Go.Proofs.Ythodcjjgimeeoaa.P
