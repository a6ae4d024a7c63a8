/- Shaken copy of a longer text: what one law needs. Its conditions: none. -/
import Derived.Test.YthodcjjgimeeoaaZFSpDp
import Derived.Test.YthodcjjgimeeoaaZFSpFlt
set_option linter.unusedSimpArgs false
set_option linter.unusedVariables false
set_option linter.unusedSimpArgs false
set_option linter.unusedVariables false
set_option linter.unusedSectionVars false
set_option linter.unnecessarySimpa false
namespace Go.Proofs.Ythodcjjgimeeoaa.F
open Go.AI
theorem zFE (f:Forest) (h:Int) (hf:Fit f.nodes.l):pc prog 174 [zai f,.int .i64 h]=some (.int .i64 (nx f.nodes.l h)):=by
 refine zHW f h _ ?_
 unfold zHV
 rw[zwc f h hf.1,zav (e:=zah),Option.bind_some]
 unfold nx zeb
 split<;>rfl
theorem zFF (f:Forest) (h:Int) (hf:Fit f.nodes.l) (hh:isN f.nodes.l h):pc prog 101 [zai f,.int .i64 h]=some (.int .i64 (nx f.nodes.l h)):=by
 refine zHC f h _ ?_
 unfold zHB
 rw[zzQ f h hf.1 hh,zav (e:=zah),Option.bind_some]
 unfold nx zeb
 by_cases hk:((nodeD f.nodes.l h).kind==12)=true
 ·rw[if_pos hk,if_pos hk,Option.bind_some]
 ·rw[if_neg hk,if_neg hk,Option.bind_some]
theorem zrO (f:Forest) (a b:Int) (hf:Fit f.nodes.l):pc prog 93 [zai f,.int .i64 a,.int .i64 b]=some (eT2 D.bool (D.int .i64) (if zbP f.nodes.l [a,b]=0 then(decide (a∈upc f.nodes.l b),0)else(false,zbP f.nodes.l [a,b]))):=by
 by_cases h0:zbP f.nodes.l [a,b]=0
 case neg=>rw[if_neg h0];exact zzx f a b hf h0
 rw[if_pos h0]
 refine zJF f a b _ ?_
 unfold P93
 rw[zgr f a b hf,zav (e:=D.int .i64),Option.bind_some,if_neg (by simp[h0])]
 obtain⟨hr,hab⟩:=zdL.1 h0
 obtain⟨ha,hb⟩:=ziZ.1 hab
 have key:∀x,(x=0∨isN f.nodes.l x)→zaR (zcu f a b) x=some (if a∈upc f.nodes.l x then .inr a else .inl 0):=by
  refine ziV hr (fun x hx hk=> ?_) fun x hx ih _=> ?_
  ·obtain rfl:=hk.resolve_right hx
   rw[zfG zcw]
   exact zaG (by simp only[zcu];rfl)
  ·have hne:(!(x==0))=true:=by unfold isN at hx;simp;omega
   rw[zht hr hx]
   by_cases e:x=a
   ·subst e
    rw[if_pos List.mem_cons_self]
    refine zaG ?_
    simp only[zcu]
    rw[if_pos hne,if_pos (by simp)]
   ·rw[zaT (y:=nx f.nodes.l x)]
    ·have hm:(a∈x::upc f.nodes.l (nx f.nodes.l x))=(a∈upc f.nodes.l (nx f.nodes.l x)):=by
      rw[List.mem_cons];exact propext ⟨fun h=>h.resolve_left (fun y=>e y.symm),.inr⟩
     simp only[hm]
     exact ih (zFD hr x)
    ·simp only[zcu]
     rw[if_pos hne,if_neg (by simpa using e),zFE f _ hf,zav (e:=D.int .i64)];rfl
 rw[key b (.inr hb),Option.bind_some]
 by_cases h:a∈upc f.nodes.l b
 ·rw[if_pos h,decide_eq_true h]
 ·rw[if_neg h,decide_eq_false h]
theorem zhe (f:Forest) (a b:Int) (hf:Fit f.nodes.l) (hr:zaU f.nodes.l) (ha:isN f.nodes.l a) (hb:isN f.nodes.l b):pc prog 52 [zai f,.int .i64 a,.int .i64 b]=some (.bool (decide (a∈upc f.nodes.l b))):=by
 refine zJR f a b _ ?_
 unfold P52
 have key:∀x,(x=0∨isN f.nodes.l x)→zaR (zct f a) x=some (if a∈upc f.nodes.l x then a else 0):=by
  refine ziV hr (fun x hx hk=> ?_) fun x hx ih _=> ?_
  ·obtain rfl:=hk.resolve_right hx
   rw[zfG zcw]
   exact zaG (by simp only[zct];rfl)
  ·have hne:(!(x==0))=true:=by unfold isN at hx;simp;omega
   rw[zht hr hx]
   by_cases e:x=a
   ·subst e
    rw[if_pos List.mem_cons_self]
    refine zaG ?_
    simp only[zct]
    rw[if_neg (by simp)]
   ·rw[zaT (y:=nx f.nodes.l x)]
    ·have hm:(a∈x::upc f.nodes.l (nx f.nodes.l x))=(a∈upc f.nodes.l (nx f.nodes.l x)):=by
      rw[List.mem_cons];exact propext ⟨fun h=>h.resolve_left (fun y=>e y.symm),.inr⟩
     simp only[hm]
     exact ih (zFD hr x)
    ·simp only[zct]
     rw[if_pos (by rw[hne];simpa using e),zFF f _ hf hx,zav (e:=D.int .i64)];rfl
 rw[key b (.inr hb),Option.bind_some]
 by_cases h:a∈upc f.nodes.l b
 ·rw[if_pos h,decide_eq_true h];simp
 ·rw[if_neg h,decide_eq_false h]
  have:((0:Int)==a)=false:=by unfold isN at ha;simp;omega
  rw[this]
end Go.Proofs.Ythodcjjgimeeoaa.F
