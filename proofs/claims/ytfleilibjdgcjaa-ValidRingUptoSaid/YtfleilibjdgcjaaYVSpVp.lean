/- Shaken copy of a longer text: what one law needs. Its conditions: none. -/
import Derived.Test.YtfleilibjdgcjaaYVSpVr
import Derived.Test.YtfleilibjdgcjaaYVSpOt
set_option linter.unusedSimpArgs false
set_option linter.unusedVariables false
set_option linter.unusedSimpArgs false
set_option linter.unusedVariables false
set_option linter.unusedSectionVars false
set_option linter.unnecessarySimpa false
namespace Go.Proofs.Ytfleilibjdgcjaa.V
open Go.AI
theorem zxH (k:Int):pc prog 160 [.int .u8 k]=some (.bool (zcY k)):=by
 refine zLm k _ ?_
 unfold zLl zcY
 simp only[bor]
theorem zjY (k:Int):pc prog 140 [.int .u8 k]=some (.bool (zcY k)):=by
 refine zLi k _ ?_
 unfold zLh zcY
 simp only[bor]
theorem zxI (k:Int):pc prog 158 [.int .u8 k]=some (.bool (zew k)):=by
 refine zLk k _ ?_
 unfold zLj zew
 simp only[bor]
section
variable {f:Forest} (hf:Fit f.nodes.l) (hr:zbK f.nodes.l) {p:Int} (hp:isN f.nodes.l p)
include hf hr hp
theorem zof (node child:Int) (rep:Bool) (hn:isN f.nodes.l node) (hc:child=0∨isN f.nodes.l child):pc prog 89 [zad f,.int .i64 p,.int .i64 node,.int .i64 child,.bool rep]=some (.int .i64 (zeS f.nodes.l p node child rep)):=by
 refine zMv f p node child rep _ ?_
 unfold P89 zeS
 rw[zda f p hf hp,zda f node hf hn,zas (e:=D.int .u8),zas (e:=D.int .u8),Option.bind_some,Option.bind_some,zma,zas (e:=D.bool),Option.bind_some,ztd f node p hf hr hn hp,zas (e:=D.bool),Option.bind_some]
 have e1:(if(!(zew (kd f.nodes.l p)))=true then some (!(zew (kd f.nodes.l p)))else some (decide (node∈upc f.nodes.l p)))=some (!(zew (kd f.nodes.l p))||decide (node∈upc f.nodes.l p)):=by
  cases zew (kd f.nodes.l p)<;>rfl
 rw[e1,Option.bind_some]
 by_cases h1:(!(zew (kd f.nodes.l p))||decide (node∈upc f.nodes.l p))=true
 ·rw[if_pos h1,if_pos h1]
 ·rw[if_neg h1,if_neg h1]
  have e2:(if(!(child==0))=true then(dec zah (pc prog 128 [zad f,.int .i64 child])).bind fun r17=>some (!(r17.parent==p))else some false)=some (decide (child≠0∧par f.nodes.l child≠p)):=by
   by_cases h0:child=0
   ·rw[if_neg (by simp[h0]),decide_eq_false (by simp[h0])]
   ·rw[if_pos (by simp[h0]),znZ f child hf.1 (hc.resolve_left h0),zas (e:=zah),Option.bind_some]
    congr 1
    rw[Bool.eq_iff_iff]
    simp[h0,par]
  rw[e2,Option.bind_some]
  by_cases h2:child≠0∧par f.nodes.l child≠p
  ·rw[if_pos (by simpa using h2),if_pos h2]
  ·rw[if_neg (by simpa using h2),if_neg h2,bor]
   by_cases h3:kd f.nodes.l node=9∨kd f.nodes.l node=12
   ·rw[if_pos (by simpa using h3),if_pos h3]
   ·rw[if_neg (by simpa using h3),if_neg h3,zxH,zas (e:=D.bool),Option.bind_some]
    have e3:(if(bif zcY (kd f.nodes.l node)then(kd f.nodes.l p==9)else false)=true then some (bif zcY (kd f.nodes.l node)then(kd f.nodes.l p==9)else false)else some (bif (kd f.nodes.l node==10)then(!(kd f.nodes.l p==9))else false))=some (decide ((zcY (kd f.nodes.l node)=true∧kd f.nodes.l p=9)∨(kd f.nodes.l node=10∧kd f.nodes.l p≠9))):=by
     rw[zkN,zkN]
     by_cases h:(zcY (kd f.nodes.l node)&&kd f.nodes.l p==9)=true
     ·rw[if_pos h,h,decide_eq_true (.inl (by simpa using h))]
     ·rw[if_neg h]
      congr 1
      rw[Bool.eq_iff_iff,decide_eq_true_eq]
      simp at h
      simp
      intro a b
      exact absurd b (h a)
    rw[e3,Option.bind_some]
    by_cases h4:(zcY (kd f.nodes.l node)=true∧kd f.nodes.l p=9)∨(kd f.nodes.l node=10∧kd f.nodes.l p≠9)
    ·rw[if_pos (decide_eq_true h4),if_pos h4]
    ·rw[if_neg (by rw[decide_eq_true_eq];exact h4),if_neg h4]
     by_cases h5:kd f.nodes.l p=9
     ·have hck:child=0∨child∈kidsL f.nodes.l p:=by
       rcases hc with h|h
       ·exact .inl h
       ·refine .inr ((zmc hr hp).2 ⟨h,?_⟩)
        exact Classical.byContradiction fun e=>h2 ⟨fun e0=>zcv (e0▸h),e⟩
      rw[if_pos (by simpa using h5),zEj hf hr hp node child rep hn hck,zas (e:=D.bool),Option.bind_some]
      cases zEi f.nodes.l p node child rep<;>simp[h5]
     ·rw[if_neg (by simpa using h5),if_neg (fun e=>h5 e.1)]
theorem zpI (child:Int) (rep:Bool) (k:Int) (hk:(nodeD f.nodes.l p).kids.n=true→kidsL f.nodes.l p=[]):pc prog 223 [zaq ⟨f,p,child,rep⟩,.int .u8 k]=some (.bool (zim f.nodes.l (zgs (kidsL f.nodes.l p) child rep) k)):=by
 obtain⟨n,ho⟩:=zth ⟨f,p,child,rep⟩ hf hk
 have hol:(zgs (kidsL f.nodes.l p) child rep).length≤2^40:=Nat.le_trans (List.length_filter_le _ _) (zcg hf p)
 refine zLF ⟨f,p,child,rep⟩ k _ ?_
 unfold zLE
 rw[ho,show(D.list n ((zeA ⟨f,p,child,rep⟩).map (D.int .i64)))=eSl (D.int .i64) ⟨n,zgs (kidsL f.nodes.l p) child rep⟩from rfl,zas (e:=eSl (D.int .i64)),Option.bind_some]
 rw[zdy (l:=zgs (kidsL f.nodes.l p) child rep) (fun x=>kd f.nodes.l x==k) (fun j=>Sum.inr (j:Int)) (Sum.inl ()) ?_ ?_,Option.bind_some]
 ·unfold zim
  rcases hx:List.findIdx? (fun x=>kd f.nodes.l x==k) (zgs (kidsL f.nodes.l p) child rep)with _|j
  ·rw[List.findIdx?_eq_none_iff]at hx
   have:(zgs (kidsL f.nodes.l p) child rep).any (fun x=>kd f.nodes.l x==k)=false:=by rw[List.any_eq_false];simpa using hx
   rw[this]
  ·rw[List.findIdx?_eq_some_iff_getElem]at hx
   obtain⟨g1,g2,-⟩:=hx
   rw[List.any_eq_true.2 ⟨_,List.getElem_mem g1,g2⟩]
   simp
 ·intro j hj
  have hw:=zaJ (show j<2^62 by omega)
  simp only[zdB,zbA hj,Option.bind_some,hw,zcz f _ hf.1,zas (e:=zah)]
  rw[if_pos (decide_eq_true (by omega))]
  unfold kd
  split<;>rfl
 ·simp only[zdB]
  rw[if_neg (by simp)]
theorem zqX {i:Nat} (hi:i<(kidsL f.nodes.l p).length):sib f.nodes.l (kidsL f.nodes.l p)[i] 1=(kidsL f.nodes.l p).getD (i+1) 0∧sib f.nodes.l (kidsL f.nodes.l p)[i] (-1)=if i=0 then 0 else(kidsL f.nodes.l p).getD (i-1) 0:=by
 have hm:=List.getElem_mem hi
 have hpar:=(zcy hr hm).2.2.1
 have hne:par f.nodes.l (kidsL f.nodes.l p)[i]≠0:=by rw[hpar];intro e;exact zcv (e▸hp)
 have hix:=zHm (zdJ hr hp).nodup hi
 unfold sib
 rw[if_neg hne,if_neg hne,hpar,hix]
 refine⟨by rw[if_neg (by omega)];congr 1,?_⟩
 by_cases h0:i=0
 ·rw[if_pos h0,if_pos (by omega)]
 ·rw[if_neg h0,if_neg (by omega)];congr 1;omega
theorem zxJ (child:Int) (rep:Bool) (k:Int):∀m i,i+m=(kidsL f.nodes.l p).length→zaU (zbo ⟨f,p,child,rep⟩ k 1) ((kidsL f.nodes.l p).getD i 0)=some (if zim f.nodes.l ((kidsL f.nodes.l p).drop i) k=true then .inr ()else .inl ()):=by
 intro m
 induction m with
 |zero=>
  intro i hi
  rw[List.drop_eq_nil_of_le (by omega),List.getD_eq_getElem?_getD,List.getElem?_eq_none (by omega)]
  exact zaH (by simp only[zbo];rfl)
 |succ m ih=>
  intro i hi
  have hlt:i<(kidsL f.nodes.l p).length:=by omega
  have hN:=(zcy hr (List.getElem_mem hlt)).2.1
  have hne:(!((kidsL f.nodes.l p)[i]==0))=true:=by unfold isN at hN;simp;omega
  rw[List.getD_eq_getElem?_getD,List.getElem?_eq_getElem hlt,Option.getD_some,List.drop_eq_getElem_cons hlt]
  unfold zim
  rw[List.any_cons]
  by_cases e:kd f.nodes.l (kidsL f.nodes.l p)[i]=k
  ·rw[show(kd f.nodes.l (kidsL f.nodes.l p)[i]==k)=true by simpa using e]
   refine zaH ?_
   simp only[zbo,zcz f _ hf.1,zas (e:=zah),Option.bind_some]
   rw[if_pos hne,if_pos (by unfold kd at e;simpa using e)];rfl
  ·rw[show(kd f.nodes.l (kidsL f.nodes.l p)[i]==k)=false by simpa using e,Bool.false_or,zaP (y:=(kidsL f.nodes.l p).getD (i+1) 0)]
   ·exact ih (i+1) (by omega)
   ·simp only[zbo,zcz f _ hf.1,zas (e:=zah),Option.bind_some]
    rw[if_pos hne,if_neg (by unfold kd at e;simpa using e),zfy f _ 1 hf (by omega),zas (e:=D.int .i64),Option.bind_some,(zqX hf hr hp hlt).1]
theorem zEl (child:Int) (rep:Bool) (k:Int):∀i,i≤(kidsL f.nodes.l p).length→zaU (zbo ⟨f,p,child,rep⟩ k (-1)) (if i=0 then 0 else(kidsL f.nodes.l p).getD (i-1) 0)=some (if zim f.nodes.l ((kidsL f.nodes.l p).take i) k=true then .inr ()else .inl ()):=by
 intro i
 induction i with
 |zero=>
  intro hi
  rw[if_pos rfl,List.take_zero]
  exact zaH (by simp only[zbo];rfl)
 |succ i ih=>
  intro hi
  have hlt:i<(kidsL f.nodes.l p).length:=by omega
  have hN:=(zcy hr (List.getElem_mem hlt)).2.1
  have hne:(!((kidsL f.nodes.l p)[i]==0))=true:=by unfold isN at hN;simp;omega
  rw[if_neg (by omega),show i+1-1=i by omega,List.getD_eq_getElem?_getD,List.getElem?_eq_getElem hlt,Option.getD_some,List.take_succ_eq_append_getElem hlt]
  unfold zim
  rw[List.any_append,List.any_cons,List.any_nil,Bool.or_false]
  by_cases e:kd f.nodes.l (kidsL f.nodes.l p)[i]=k
  ·rw[show(kd f.nodes.l (kidsL f.nodes.l p)[i]==k)=true by simpa using e,Bool.or_true]
   refine zaH ?_
   simp only[zbo,zcz f _ hf.1,zas (e:=zah),Option.bind_some]
   rw[if_pos hne,if_pos (by unfold kd at e;simpa using e)];rfl
  ·rw[show(kd f.nodes.l (kidsL f.nodes.l p)[i]==k)=false by simpa using e,Bool.or_false,zaP (y:=if i=0 then 0 else(kidsL f.nodes.l p).getD (i-1) 0)]
   ·exact ih (by omega)
   ·simp only[zbo,zcz f _ hf.1,zas (e:=zah),Option.bind_some]
    rw[if_pos hne,if_neg (by unfold kd at e;simpa using e),zfy f _ (-1) hf (by omega),zas (e:=D.int .i64),Option.bind_some,(zqX hf hr hp hlt).2]
theorem zti (child:Int) (rep:Bool) (k:Int) (hc:child=0∨child∈kidsL f.nodes.l p):pc prog 224 [zaq ⟨f,p,child,rep⟩,.int .u8 k]=some (.bool (zim f.nodes.l (zoc (kidsL f.nodes.l p) child) k)):=by
 refine zLH ⟨f,p,child,rep⟩ k _ ?_
 unfold zLG
 have hs:pc prog 235 [zaq ⟨f,p,child,rep⟩,.int .u8 k,.int .i64 1]=some (.bool (zim f.nodes.l (zoc (kidsL f.nodes.l p) child) k)):=by
  refine zEh ⟨f,p,child,rep⟩ k 1 _ ?_
  unfold zHv zoc
  by_cases h0:child=0
  ·rw[if_pos (by simp[h0]),if_pos h0];rfl
  ·obtain⟨i,hi,e1,e2⟩:=zjV (hc.resolve_left h0)
   rw[if_neg (by simp[h0]),if_neg h0,e2,zfy f _ 1 hf (by omega),zas (e:=D.int .i64),Option.bind_some]
   dsimp only
   rw[←e1,(zqX hf hr hp hi).1]
   have:=zxJ hf hr hp (kidsL f.nodes.l p)[i] rep k ((kidsL f.nodes.l p).length-(i+1)) (i+1) (by omega)
   rw[this,Option.bind_some,show((i:Nat):Int).toNat+1=i+1 by omega]
   cases zim f.nodes.l ((kidsL f.nodes.l p).drop (i+1)) k<;>rfl
 rw[hs,zas (e:=D.bool)];rfl
theorem zxK (child:Int) (rep:Bool) (k:Int) (hc:child∈kidsL f.nodes.l p):pc prog 225 [zaq ⟨f,p,child,rep⟩,.int .u8 k]=some (.bool (zim f.nodes.l (zod (kidsL f.nodes.l p) child) k)):=by
 have h0:child≠0:=fun e=>zcv (e▸(zcy hr hc).2.1)
 refine zHs ⟨f,p,child,rep⟩ k _ ?_
 unfold zJn
 have hs:pc prog 235 [zaq ⟨f,p,child,rep⟩,.int .u8 k,.int .i64 (-1)]=some (.bool (zim f.nodes.l (zod (kidsL f.nodes.l p) child) k)):=by
  refine zEh ⟨f,p,child,rep⟩ k (-1) _ ?_
  unfold zHv zod
  obtain⟨i,hi,e1,e2⟩:=zjV hc
  rw[if_neg (by simp[h0]),if_neg h0,e2,zfy f _ (-1) hf (by omega),zas (e:=D.int .i64),Option.bind_some]
  dsimp only
  rw[←e1,(zqX hf hr hp hi).2]
  have:=zEl hf hr hp (kidsL f.nodes.l p)[i] rep k i (by omega)
  rw[this,Option.bind_some,show((i:Nat):Int).toNat=i by omega]
  cases zim f.nodes.l ((kidsL f.nodes.l p).take i) k<;>rfl
 rw[hs,zas (e:=D.bool)];rfl
theorem ztj (child:Int) (rep:Bool) (k:Int) (h0:child=0):pc prog 225 [zaq ⟨f,p,child,rep⟩,.int .u8 k]=some (.bool false):=by
 refine zHs ⟨f,p,child,rep⟩ k _ ?_
 unfold zJn
 have hs:pc prog 235 [zaq ⟨f,p,child,rep⟩,.int .u8 k,.int .i64 (-1)]=some (.bool false):=by
  refine zEh ⟨f,p,child,rep⟩ k (-1) _ ?_
  unfold zHv
  rw[if_pos (by simp[h0])]
 rw[hs,zas (e:=D.bool)];rfl
theorem zqY (node child:Int) (rep:Bool) (hk:(nodeD f.nodes.l p).kids.n=true→kidsL f.nodes.l p=[]) (hc:child=0∨child∈kidsL f.nodes.l p):pc prog 194 [zaq ⟨f,p,child,rep⟩,.int .i64 node]=some (.bool (zoe f.nodes.l (kidsL f.nodes.l p) child rep)):=by
 refine zLq ⟨f,p,child,rep⟩ node _ ?_
 unfold zLp
 rw[zpI hf hr hp child rep 1 hk,zti hf hr hp child rep 10 hc,zcz f _ hf.1]
 simp only[zas (e:=D.bool),zas (e:=zah),Option.bind_some]
 unfold zoe
 rw[show(nodeD f.nodes.l child).kind=kd f.nodes.l child from rfl]
 cases rep<;>cases child==0<;>cases zim f.nodes.l (zgs (kidsL f.nodes.l p) child _) 1<;>cases zim f.nodes.l (zoc (kidsL f.nodes.l p) child) 10<;>cases kd f.nodes.l child==10<;>rfl
theorem zHB (node child:Int) (rep:Bool) (hk:(nodeD f.nodes.l p).kids.n=true→kidsL f.nodes.l p=[]) (hc:child=0∨child∈kidsL f.nodes.l p):pc prog 196 [zaq ⟨f,p,child,rep⟩,.int .i64 node]=some (.bool (dtR f.nodes.l (kidsL f.nodes.l p) child rep)):=by
 refine zLu ⟨f,p,child,rep⟩ node _ ?_
 unfold zLt dtR
 rw[zpI hf hr hp child rep 1 hk,zpI hf hr hp child rep 10 hk]
 simp only[zas (e:=D.bool),Option.bind_some]
 by_cases h0:child=0
 ·rw[ztj hf hr hp child rep 1 h0,zas (e:=D.bool),Option.bind_some,if_pos (by simp[h0])]
  have ho:zgs (kidsL f.nodes.l p) child rep=kidsL f.nodes.l p:=by
   unfold zgs
   refine List.filter_eq_self.2 fun x hx=> ?_
   have:=(zcy hr hx).2.1
   have:(x==child)=false:=by rw[h0];unfold isN at this;simp;omega
   rw[this];simp
  have ha:zod (kidsL f.nodes.l p) child=kidsL f.nodes.l p:=by unfold zod;rw[if_pos h0]
  rw[ho,ha]
  cases zim f.nodes.l (kidsL f.nodes.l p) 1<;>cases zim f.nodes.l (kidsL f.nodes.l p) 10<;>rfl
 ·rw[zxK hf hr hp child rep 1 (hc.resolve_left h0),zas (e:=D.bool),Option.bind_some,if_neg (by simp[h0])]
  cases zim f.nodes.l (zgs (kidsL f.nodes.l p) child rep) 10<;>cases zim f.nodes.l (zod (kidsL f.nodes.l p) child) 1<;>rfl
end
end Go.Proofs.Ytfleilibjdgcjaa.V
