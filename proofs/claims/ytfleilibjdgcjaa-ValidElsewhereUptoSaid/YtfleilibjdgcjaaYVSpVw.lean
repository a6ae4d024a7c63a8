/- Shaken copy of a longer text: what one law needs. Its conditions: none. -/
import Derived.Test.YtfleilibjdgcjaaYVSpVp
set_option linter.unusedSimpArgs false
set_option linter.unusedVariables false
set_option linter.unusedSimpArgs false
set_option linter.unusedVariables false
set_option linter.unusedSectionVars false
set_option linter.unnecessarySimpa false
namespace Go.Proofs.Ytfleilibjdgcjaa.V
open Go.AI
section
variable {f:Forest} (hf:Fit f.nodes.l) (hr:zbK f.nodes.l) {p:Int} (hp:isN f.nodes.l p)
include hf hr hp
theorem zxL (a:valid_ask) (ha:a.f=f) (node x:Int):∀m j,j+m=(kidsL f.nodes.l node).length→∀n:Nat,n≤j→zaU (zbZ a x (nodeD f.nodes.l node)) ((j:Int),(n:Int))=some (if((kidsL f.nodes.l node).drop j).any (fun x=>zcY (kd f.nodes.l x))=true then .inr ()else .inl ((n+zkc f.nodes.l ((kidsL f.nodes.l node).drop j) 1:Nat):Int)):=by
 have hk:=zcg hf node
 intro m
 induction m with
 |zero=>
  intro j hj n hn
  obtain rfl:j=(kidsL f.nodes.l node).length:=by omega
  rw[List.drop_length]
  refine zaH ?_
  simp only[zbZ]
  rw[if_neg (by show ¬decide (((kidsL f.nodes.l node).length:Int)<((kidsL f.nodes.l node).length:Int))=true;simp)];rfl
 |succ m ih=>
  intro j hj n hn
  have hlt:j<(kidsL f.nodes.l node).length:=by omega
  have hk':(kidsL f.nodes.l node).length≤2^40:=hk
  have hw:=zaJ (show j<2^62 by omega)
  have hwn:=zaJ (show n<2^62 by omega)
  have hrd:rd (nodeD f.nodes.l node).kids.l (j:Int)=some (kidsL f.nodes.l node)[j]:=zbA hlt
  have hcond:decide ((j:Int)<((nodeD f.nodes.l node).kids.l.length:Int))=true:=decide_eq_true (by show(j:Int)<((kidsL f.nodes.l node).length:Int);omega)
  rw[List.drop_eq_getElem_cons hlt,List.any_cons]
  by_cases e:kd f.nodes.l (kidsL f.nodes.l node)[j]=1
  ·rw[zaP (y:=(((j+1:Nat):Int),((n+1:Nat):Int))),ih (j+1) (by omega) (n+1) (by omega)]
   ·rw[show zcY (kd f.nodes.l (kidsL f.nodes.l node)[j])=false by rw[e];rfl,Bool.false_or]
    unfold zkc
    rw[List.filter_cons_of_pos (by simpa using e),List.length_cons]
    congr 3;omega
   ·simp only[zbZ,hrd,Option.bind_some,ha,zcz f _ hf.1,zas (e:=zah),hw,hwn]
    rw[if_pos hcond,if_pos (by unfold kd at e;simpa using e)];rfl
  ·cases ht:zcY (kd f.nodes.l (kidsL f.nodes.l node)[j])with
   |true=>
    refine zaH ?_
    simp only[zbZ,hrd,Option.bind_some,ha,zcz f _ hf.1,zas (e:=zah),hw,hwn]
    rw[if_pos hcond,if_neg (by unfold kd at e;simpa using e),zjY,zas (e:=D.bool),Option.bind_some,show zcY (nodeD f.nodes.l (kidsL f.nodes.l node)[j]).kind=true from ht];rfl
   |false=>
    rw[zaP (y:=(((j+1:Nat):Int),(n:Int))),ih (j+1) (by omega) n (by omega)]
    ·rw[Bool.false_or]
     unfold zkc
     rw[List.filter_cons_of_neg (by simpa using e)]
    ·simp only[zbZ,hrd,Option.bind_some,ha,zcz f _ hf.1,zas (e:=zah),hw,hwn]
     rw[if_pos hcond,if_neg (by unfold kd at e;simpa using e),zjY,zas (e:=D.bool),Option.bind_some,show zcY (nodeD f.nodes.l (kidsL f.nodes.l node)[j]).kind=false from ht];rfl
theorem zAV (node child:Int) (rep:Bool) (hk:(nodeD f.nodes.l p).kids.n=true→kidsL f.nodes.l p=[]) (hc:child=0∨child∈kidsL f.nodes.l p):pc prog 195 [zaq ⟨f,p,child,rep⟩,.int .i64 node]=some (.bool (zAT f.nodes.l node (kidsL f.nodes.l p) child rep)):=by
 refine zLs ⟨f,p,child,rep⟩ node _ ?_
 unfold zLr zAT
 have:=zxL hf hr hp ⟨f,p,child,rep⟩ rfl node node (kidsL f.nodes.l node).length 0 (by omega) 0 (by omega)
 rw[show((0:Nat):Int)=0 from rfl,List.drop_zero,Nat.zero_add]at this
 rw[zcz f node hf.1,zas (e:=zah),Option.bind_some,this,Option.bind_some,zqY hf hr hp node child rep hk hc]
 simp only[zas (e:=D.bool),Option.bind_some]
 generalize zkc f.nodes.l (kidsL f.nodes.l node) 1=c
 generalize ((kidsL f.nodes.l node).any fun x=>zcY (kd f.nodes.l x))=t
 generalize zoe f.nodes.l (kidsL f.nodes.l p) child rep=e
 cases t with
 |true=>rfl
 |false=>
  rw[if_neg (by simp)]
  dsimp only
  rcases c with _|_|c
  ·simp
  ·simp
  ·rw[if_pos (by simp;omega),if_neg (by simp;omega)]
   simp
theorem zAW (node child:Int) (rep:Bool) (hk:(nodeD f.nodes.l p).kids.n=true→kidsL f.nodes.l p=[]) (hc:child=0∨child∈kidsL f.nodes.l p):zhe ⟨f,p,child,rep⟩ (kd f.nodes.l node) node=some (zEi f.nodes.l p node child rep):=by
 unfold zhe zmh zEi
 by_cases k1:kd f.nodes.l node=1
 ·rw[if_pos k1,if_neg (by omega),if_pos k1,zqY hf hr hp node child rep hk hc,zas (e:=D.bool)]
 ·rw[if_neg k1]
  by_cases k2:kd f.nodes.l node=11
  ·rw[if_pos k2,if_pos k2,zAV hf hr hp node child rep hk hc,zas (e:=D.bool)]
  ·rw[if_neg k2,if_neg k2,if_neg k1]
   by_cases k3:kd f.nodes.l node=10
   ·rw[if_pos k3,if_pos k3,zHB hf hr hp node child rep hk hc,zas (e:=D.bool)]
   ·rw[if_neg k3,if_neg k3]
    have:pc prog 197 [zaq ⟨f,p,child,rep⟩,.int .i64 node]=some (.bool true):=zLv ⟨f,p,child,rep⟩ node _ rfl
    rw[this,zas (e:=D.bool)]
theorem zog (node child:Int) (rep:Bool) (hn:isN f.nodes.l node) (hc:child=0∨isN f.nodes.l child) (hk:(nodeD f.nodes.l p).kids.n=true→kidsL f.nodes.l p=[]):pc prog 88 [zaq ⟨f,p,child,rep⟩,.int .i64 node]=some (.int .i64 (zeS f.nodes.l p node child rep)):=by
 refine zMu ⟨f,p,child,rep⟩ node _ ?_
 unfold P88 zeS
 dsimp only
 have h0:zbg f.nodes.l [node,p]=0:=zcd.2 ⟨hr,by simpa using⟨hn,hp⟩⟩
 rw[zcz f p hf.1,zcz f node hf.1,zas (e:=zah),zas (e:=zah),Option.bind_some,Option.bind_some,ztc f node p hf,if_pos h0,zas (e:=eT2 D.bool (D.int .i64)),Option.bind_some]
 rw[show(nodeD f.nodes.l p).kind=kd f.nodes.l p from rfl,show(nodeD f.nodes.l node).kind=kd f.nodes.l node from rfl,zxI,zas (e:=D.bool),Option.bind_some]
 dsimp only
 rw[bor]
 by_cases h1:(!(zew (kd f.nodes.l p))||decide (node∈upc f.nodes.l p))=true
 ·rw[if_pos h1,if_pos h1]
 ·rw[if_neg h1,if_neg h1]
  have e2:(if(!(child==0))=true then(dec zah (pc prog 91 [zad f,.int .i64 child])).bind fun r13=>some (!(r13.parent==p))else some false)=some (decide (child≠0∧par f.nodes.l child≠p)):=by
   by_cases h0:child=0
   ·rw[if_neg (by simp[h0]),decide_eq_false (by simp[h0])]
   ·rw[if_pos (by simp[h0]),zcz f child hf.1,zas (e:=zah),Option.bind_some]
    congr 1
    rw[Bool.eq_iff_iff]
    simp[h0,par]
  rw[e2,Option.bind_some]
  by_cases h2:child≠0∧par f.nodes.l child≠p
  ·rw[if_pos (by simpa using h2),if_pos h2]
  ·rw[if_neg (by simpa using h2),if_neg h2,bor]
   by_cases h3:kd f.nodes.l node=9∨kd f.nodes.l node=12
   ·rw[if_pos (by simpa using h3),if_pos h3]
   ·rw[if_neg (by simpa using h3),if_neg h3,zjY,zas (e:=D.bool),Option.bind_some,zkN,zkN]
    have hck:child=0∨child∈kidsL f.nodes.l p:=by
     rcases hc with h|h
     ·exact .inl h
     ·refine .inr ((zmc hr hp).2 ⟨h,?_⟩)
      exact Classical.byContradiction fun e=>h2 ⟨fun e0=>zcv (e0▸h),e⟩
    rw[zAW hf hr hp node child rep hk hck]
    by_cases h4:zcY (kd f.nodes.l node)=true∧kd f.nodes.l p=9
    ·rw[if_neg (by simp[h4.1,h4.2]),if_pos (.inl h4)]
    ·have h4':(zcY (kd f.nodes.l node)&&kd f.nodes.l p==9)=false:=by
      simp only[Bool.and_eq_false_iff]
      by_cases ht:zcY (kd f.nodes.l node)=true
      ·right;simpa using fun e=>h4 ⟨ht,e⟩
      ·left;simpa using ht
     rw[if_pos (by rw[h4'];rfl)]
     by_cases h5:kd f.nodes.l node=10∧kd f.nodes.l p≠9
     ·rw[if_pos (by simp[h5.1,h5.2]),if_pos (.inr h5)]
     ·rw[if_neg (show ¬(kd f.nodes.l node==10&& !(kd f.nodes.l p==9))=true by simp;exact fun a=>Classical.byContradiction fun b=>h5 ⟨a,b⟩),if_neg (show ¬((zcY (kd f.nodes.l node)=true∧kd f.nodes.l p=9)∨(kd f.nodes.l node=10∧kd f.nodes.l p≠9))from fun h=>h.elim h4 h5)]
      by_cases h6:kd f.nodes.l p=9
      ·rw[if_pos (by simpa using h6),Option.bind_some]
       cases zEi f.nodes.l p node child rep<;>simp[h6]
      ·rw[if_neg (by simpa using h6),if_neg (fun e=>h6 e.1)]
end
end Go.Proofs.Ytfleilibjdgcjaa.V
