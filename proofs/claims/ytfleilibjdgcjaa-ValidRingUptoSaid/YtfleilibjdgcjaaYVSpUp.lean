/- Shaken copy of a longer text: what one law needs. Its conditions: none. -/
import Derived.Test.YtfleilibjdgcjaaYVSpDp
import Derived.Test.YtfleilibjdgcjaaYVSpFlt
set_option linter.unusedSimpArgs false
set_option linter.unusedVariables false
set_option linter.unusedSimpArgs false
set_option linter.unusedVariables false
set_option linter.unusedSectionVars false
set_option linter.unnecessarySimpa false
namespace Go.Proofs.Ytfleilibjdgcjaa.V
open Go.AI
theorem zHq (f:Forest) (h:Int) (hf:Fit f.nodes.l):pc prog 183 [zad f,.int .i64 h]=some (.int .i64 (nx f.nodes.l h)):=by
 refine zKh f h _ ?_
 unfold zKg
 rw[zcz f h hf.1,zas (e:=zah),Option.bind_some]
 unfold nx zeO
 split<;>rfl
theorem zHr (f:Forest) (h:Int) (hf:Fit f.nodes.l) (hh:isN f.nodes.l h):pc prog 138 [zad f,.int .i64 h]=some (.int .i64 (nx f.nodes.l h)):=by
 refine zJX f h _ ?_
 unfold zJW
 rw[znZ f h hf.1 hh,zas (e:=zah),Option.bind_some]
 unfold nx zeO
 by_cases hk:((nodeD f.nodes.l h).kind==12)=true
 ·rw[if_pos hk,if_pos hk,Option.bind_some]
 ·rw[if_neg hk,if_neg hk,Option.bind_some]
theorem ztc (f:Forest) (a b:Int) (hf:Fit f.nodes.l):pc prog 61 [zad f,.int .i64 a,.int .i64 b]=some (eT2 D.bool (D.int .i64) (if zbg f.nodes.l [a,b]=0 then(decide (a∈upc f.nodes.l b),0)else(false,zbg f.nodes.l [a,b]))):=by
 by_cases h0:zbg f.nodes.l [a,b]=0
 case neg=>rw[if_neg h0];exact zAQ f a b hf h0
 rw[if_pos h0]
 refine zLT f a b _ ?_
 unfold P61
 rw[zoa f a b hf,zas (e:=D.int .i64),Option.bind_some,if_neg (by simp[h0])]
 obtain⟨hr,hab⟩:=zcd.1 h0
 obtain⟨ha,hb⟩:=zEc.1 hab
 have key:∀x,(x=0∨isN f.nodes.l x)→zaU (zcD f a b) x=some (if a∈upc f.nodes.l x then .inr a else .inl 0):=by
  refine zil hr (fun x hx hk=> ?_) fun x hx ih _=> ?_
  ·obtain rfl:=hk.resolve_right hx
   rw[zez zcv]
   exact zaH (by simp only[zcD];rfl)
  ·have hne:(!(x==0))=true:=by unfold isN at hx;simp;omega
   rw[zhc hr hx]
   by_cases e:x=a
   ·subst e
    rw[if_pos List.mem_cons_self]
    refine zaH ?_
    simp only[zcD]
    rw[if_pos hne,if_pos (by simp)]
   ·rw[zaP (y:=nx f.nodes.l x)]
    ·have hm:(a∈x::upc f.nodes.l (nx f.nodes.l x))=(a∈upc f.nodes.l (nx f.nodes.l x)):=by
      rw[List.mem_cons];exact propext ⟨fun h=>h.resolve_left (fun y=>e y.symm),.inr⟩
     simp only[hm]
     exact ih (zHp hr x)
    ·simp only[zcD]
     rw[if_pos hne,if_neg (by simpa using e),zHq f _ hf,zas (e:=D.int .i64)];rfl
 rw[key b (.inr hb),Option.bind_some]
 by_cases h:a∈upc f.nodes.l b
 ·rw[if_pos h,decide_eq_true h]
 ·rw[if_neg h,decide_eq_false h]
theorem ztd (f:Forest) (a b:Int) (hf:Fit f.nodes.l) (hr:zbK f.nodes.l) (ha:isN f.nodes.l a) (hb:isN f.nodes.l b):pc prog 68 [zad f,.int .i64 a,.int .i64 b]=some (.bool (decide (a∈upc f.nodes.l b))):=by
 refine zMg f a b _ ?_
 unfold P68
 have key:∀x,(x=0∨isN f.nodes.l x)→zaU (zcE f a) x=some (if a∈upc f.nodes.l x then a else 0):=by
  refine zil hr (fun x hx hk=> ?_) fun x hx ih _=> ?_
  ·obtain rfl:=hk.resolve_right hx
   rw[zez zcv]
   exact zaH (by simp only[zcE];rfl)
  ·have hne:(!(x==0))=true:=by unfold isN at hx;simp;omega
   rw[zhc hr hx]
   by_cases e:x=a
   ·subst e
    rw[if_pos List.mem_cons_self]
    refine zaH ?_
    simp only[zcE]
    rw[if_neg (by simp)]
   ·rw[zaP (y:=nx f.nodes.l x)]
    ·have hm:(a∈x::upc f.nodes.l (nx f.nodes.l x))=(a∈upc f.nodes.l (nx f.nodes.l x)):=by
      rw[List.mem_cons];exact propext ⟨fun h=>h.resolve_left (fun y=>e y.symm),.inr⟩
     simp only[hm]
     exact ih (zHp hr x)
    ·simp only[zcE]
     rw[if_pos (by rw[hne];simpa using e),zHr f _ hf hx,zas (e:=D.int .i64)];rfl
 rw[key b (.inr hb),Option.bind_some]
 by_cases h:a∈upc f.nodes.l b
 ·rw[if_pos h,decide_eq_true h];simp
 ·rw[if_neg h,decide_eq_false h]
  have:((0:Int)==a)=false:=by unfold isN at ha;simp;omega
  rw[this]
end Go.Proofs.Ytfleilibjdgcjaa.V
