/- Shaken copy of a longer text: what one law needs. Its conditions: none. -/
import Derived.Test.YthodcjjgimeeoaaGreatZPSpDp
import Derived.Test.YthodcjjgimeeoaaGreatZPSpFlt
set_option linter.unusedSimpArgs false
set_option linter.unusedVariables false
set_option linter.unusedSimpArgs false
set_option linter.unusedVariables false
set_option linter.unusedSectionVars false
set_option linter.unnecessarySimpa false
namespace Go.Proofs.YthodcjjgimeeoaaGreat.P
open Go.AI
theorem zLq (f:Forest) (h:Int) (hf:Fit f.nodes.l):pc prog 150 [zaa f,.int .i64 h]=some (.int .i64 (nx f.nodes.l h)):=by
 refine zOK f h _ ?_
 unfold zOJ
 rw[zeL f h hf.1,zap (e:=zao),Option.bind_some]
 unfold nx zeJ
 split<;>rfl
theorem zLr (f:Forest) (h:Int) (hf:Fit f.nodes.l) (hh:isN f.nodes.l h):pc prog 110 [zaa f,.int .i64 h]=some (.int .i64 (nx f.nodes.l h)):=by
 refine zOw f h _ ?_
 unfold zOv
 rw[zdk f h hf.1 hh,zap (e:=zao),Option.bind_some]
 unfold nx zeJ
 by_cases hk:((nodeD f.nodes.l h).kind==12)=true
 ·rw[if_pos hk,if_pos hk,Option.bind_some]
 ·rw[if_neg hk,if_neg hk,Option.bind_some]
theorem zvF (f:Forest) (a b:Int) (hf:Fit f.nodes.l):pc prog 98 [zaa f,.int .i64 a,.int .i64 b]=some (eT2 D.bool (D.int .i64) (if zbH f.nodes.l [a,b]=0 then(decide (a∈upc f.nodes.l b),0)else(false,zbH f.nodes.l [a,b]))):=by
 by_cases h0:zbH f.nodes.l [a,b]=0
 case neg=>rw[if_neg h0];exact zEw f a b hf h0
 rw[if_pos h0]
 refine zQu f a b _ ?_
 unfold P98
 rw[zpJ f a b hf,zap (e:=D.int .i64),Option.bind_some,if_neg (by simp[h0])]
 obtain⟨hr,hab⟩:=ziM.1 h0
 obtain⟨ha,hb⟩:=zAx.1 hab
 have key:∀x,(x=0∨isN f.nodes.l x)→zaL (zcV f a b) x=some (if a∈upc f.nodes.l x then .inr a else .inl 0):=by
  refine zfo hr (fun x hx hk=> ?_) fun x hx ih _=> ?_
  ·obtain rfl:=hk.resolve_right hx
   rw[zdi zbr]
   exact zau (by simp only[zcV];rfl)
  ·have hne:(!(x==0))=true:=by unfold isN at hx;simp;omega
   rw[zdZ hr hx]
   by_cases e:x=a
   ·subst e
    rw[if_pos List.mem_cons_self]
    refine zau ?_
    simp only[zcV]
    rw[if_pos hne,if_pos (by simp)]
   ·rw[zaC (y:=nx f.nodes.l x)]
    ·have hm:(a∈x::upc f.nodes.l (nx f.nodes.l x))=(a∈upc f.nodes.l (nx f.nodes.l x)):=by
      rw[List.mem_cons];exact propext ⟨fun h=>h.resolve_left (fun y=>e y.symm),.inr⟩
     simp only[hm]
     exact ih (zEj hr x)
    ·simp only[zcV]
     rw[if_pos hne,if_neg (by simpa using e),zLq f _ hf,zap (e:=D.int .i64)];rfl
 rw[key b (.inr hb),Option.bind_some]
 by_cases h:a∈upc f.nodes.l b
 ·rw[if_pos h,decide_eq_true h]
 ·rw[if_neg h,decide_eq_false h]
theorem zmh (f:Forest) (a b:Int) (hf:Fit f.nodes.l) (hr:zaJ f.nodes.l) (ha:isN f.nodes.l a) (hb:isN f.nodes.l b):pc prog 76 [zaa f,.int .i64 a,.int .i64 b]=some (.bool (decide (a∈upc f.nodes.l b))):=by
 refine zQC f a b _ ?_
 unfold P76
 have key:∀x,(x=0∨isN f.nodes.l x)→zaL (zcU f a) x=some (if a∈upc f.nodes.l x then a else 0):=by
  refine zfo hr (fun x hx hk=> ?_) fun x hx ih _=> ?_
  ·obtain rfl:=hk.resolve_right hx
   rw[zdi zbr]
   exact zau (by simp only[zcU];rfl)
  ·have hne:(!(x==0))=true:=by unfold isN at hx;simp;omega
   rw[zdZ hr hx]
   by_cases e:x=a
   ·subst e
    rw[if_pos List.mem_cons_self]
    refine zau ?_
    simp only[zcU]
    rw[if_neg (by simp)]
   ·rw[zaC (y:=nx f.nodes.l x)]
    ·have hm:(a∈x::upc f.nodes.l (nx f.nodes.l x))=(a∈upc f.nodes.l (nx f.nodes.l x)):=by
      rw[List.mem_cons];exact propext ⟨fun h=>h.resolve_left (fun y=>e y.symm),.inr⟩
     simp only[hm]
     exact ih (zEj hr x)
    ·simp only[zcU]
     rw[if_pos (by rw[hne];simpa using e),zLr f _ hf hx,zap (e:=D.int .i64)];rfl
 rw[key b (.inr hb),Option.bind_some]
 by_cases h:a∈upc f.nodes.l b
 ·rw[if_pos h,decide_eq_true h];simp
 ·rw[if_neg h,decide_eq_false h]
  have:((0:Int)==a)=false:=by unfold isN at ha;simp;omega
  rw[this]
end Go.Proofs.YthodcjjgimeeoaaGreat.P
