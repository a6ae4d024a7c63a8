/- Shaken copy of a longer text: what one law needs. Its conditions: none. -/
import Derived.Test.YtfleilibjdgcjaaYVSpFo9
set_option linter.unusedSimpArgs false
set_option linter.unusedVariables false
set_option linter.unusedSimpArgs false
set_option linter.unusedVariables false
set_option linter.unusedSectionVars false
set_option linter.unnecessarySimpa false
namespace Go.Proofs.Ytfleilibjdgcjaa.V
open Go.AI
def sib (f:List Node) (x k:Int):Int:=if par f x=0 then 0 else if idx (kidsL f (par f x)) x+k<0 then 0 else(kidsL f (par f x)).getD (idx (kidsL f (par f x)) x+k).toNat 0
theorem zfy (f:Forest) (x k:Int) (hf:Fit f.nodes.l) (hk: -1≤k∧k≤1):pc prog 185 [zad f,.int .i64 x,.int .i64 k]=some (.int .i64 (sib f.nodes.l x k)):=by
 refine zKj f x k _ ?_
 unfold zKi sib
 rw[zcz f x hf.1,zas (e:=zah),Option.bind_some]
 by_cases hp:par f.nodes.l x=0
 ·rw[if_pos (by unfold par at hp;simp[hp]),if_pos hp]
 ·have hl:=zcg hf (par f.nodes.l x)
  have h1:=zHn (l:=kidsL f.nodes.l (par f.nodes.l x)) (x:=x)
  have h2:=zHo (l:=kidsL f.nodes.l (par f.nodes.l x)) (x:=x)
  rw[if_neg (by unfold par at hp;simp[hp]),if_neg hp,zcz f _ hf.1,zas (e:=zah),Option.bind_some]
  rw[show(nodeD f.nodes.l x).parent=par f.nodes.l x from rfl,zxq _ _ hl,zas (e:=D.int .i64),Option.bind_some]
  rw[show(nodeD f.nodes.l (par f.nodes.l x)).kids.l=kidsL f.nodes.l (par f.nodes.l x)from rfl]
  have hl':(kidsL f.nodes.l (par f.nodes.l x)).length≤2^40:=hl
  generalize hi:idx (kidsL f.nodes.l (par f.nodes.l x)) x=i at h1 h2
  generalize kidsL f.nodes.l (par f.nodes.l x)=l at h1 hl'
  rw[w64 (by omega) (by omega),bor]
  by_cases h3:i+k<0
  ·rw[if_pos (by simp[h3]),if_pos h3]
  ·rw[if_neg h3]
   by_cases h4:(l.length:Int)≤i+k
   ·rw[if_pos (by simp[h4]),List.getD_eq_getElem?_getD,List.getElem?_eq_none (by omega)];rfl
   ·rw[if_neg (by simp;omega)]
    unfold rd
    rw[if_pos (by omega),List.getD_eq_getElem?_getD,List.getElem?_eq_getElem (by omega)];rfl
end Go.Proofs.Ytfleilibjdgcjaa.V
