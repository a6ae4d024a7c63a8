/- Shaken copy of a longer text: what one law needs. Its conditions: none. -/
import Derived.Test.YtfleilibjdgcjaaZOSpFoC
import Derived.Test.YtfleilibjdgcjaaZODecW
set_option linter.unusedSimpArgs false
set_option linter.unusedVariables false
set_option linter.unusedSimpArgs false
set_option linter.unusedVariables false
set_option linter.unusedSectionVars false
set_option linter.unnecessarySimpa false
namespace Go.Proofs.Ytfleilibjdgcjaa.O
open Go.AI
theorem zhq {step:List Int→Int→Option (List Int⊕Empty)} (h:∀x v,x.length<2^40→step x v=some (.inl (x++[v]))):∀(l acc:List Int),acc.length+l.length≤2^40→foldI step acc l=some (.inl (acc++l))
 |[],acc,_=>by rw[zxr,List.append_nil]
 |v::l,acc,hl=>by
  simp only[List.length_cons]at hl
  rw[ztC (h acc v (by omega)),zhq h l _ (by simp only[List.length_append,List.length_singleton];omega),List.append_assoc];rfl
theorem zIX {f:List Node} {h:Int} (hr:zaO f) (hh:isN f h):(zbG f h).isEmpty=false:=by rw[all_in hr hh];rfl
theorem zCl (f:Forest) (h:Int) (hf:Fit f.nodes.l) (hr:zaO f.nodes.l) (hh:isN f.nodes.l h):pc prog 107 [eForest f,.int .i64 h]=some (eSl (D.int .i64) ⟨false,zbG f.nodes.l h⟩):=by
 refine zMY f h _ ?_
 unfold zMX
 rw[zoW hf hr hh,Option.bind_some,zhq ?_ _ _ (by have:=zmF hr hh;have:=hr.1;simp only[List.length_nil];omega),Option.bind_some]
 ·dsimp only[List.nil_append]
  rw[zIX hr hh]
 ·intro x v hx
  have hroom:AI.roomBytes=2^46:=rfl
  unfold zeM
  rw[if_pos (by rw[hroom];omega)]
theorem zmL (f:Forest) (h:Int) (hf:Fit f.nodes.l):pc prog 38 [eForest f,.int .i64 h]=some (eT2 (eSl (D.int .i64)) (D.int .i64) (if zaI f.nodes.l [h]=0 then(⟨false,zbG f.nodes.l h⟩,0)else(⟨true,[]⟩,zaI f.nodes.l [h]))):=by
 refine zNw f h _ ?_
 unfold P38
 rw[zer f h hf,zap (e:=D.int .i64),Option.bind_some]
 by_cases h0:zaI f.nodes.l [h]=0
 ·obtain⟨hr,hh⟩:=zaG.1 h0
  rw[if_neg (by simp[h0]),if_pos h0,zCl f h hf hr (hh h (by simp)),zap (e:=eSl (D.int .i64))];rfl
 ·rw[if_pos (by simp[h0]),if_neg h0]
theorem zhr (f:Forest) (h:Int) (hf:Fit f.nodes.l):pc prog 37 [eForest f,.int .i64 h]=some (eT2 (D.int .i64) (D.int .i64) (if zaI f.nodes.l [h]=0 then(root f.nodes.l h,0)else(0,zaI f.nodes.l [h]))):=by
 refine zNv f h _ ?_
 unfold P37
 rw[zer f h hf,zap (e:=D.int .i64),Option.bind_some]
 by_cases h0:zaI f.nodes.l [h]=0
 ·obtain⟨hr,hh⟩:=zaG.1 h0
  rw[if_neg (by simp[h0]),if_pos h0,zmE f h hf hr (hh h (by simp)),zap (e:=D.int .i64)];rfl
 ·rw[if_pos (by simp[h0]),if_neg h0]
theorem zcS (l:Sl Int) (x:Int) (hl:l.l.length≤2^40):pc prog 39 [.list l.n (l.l.map (D.int .i64)),.int .i64 x]=some (.int .i64 (idx l.l x)):=by
 refine zNP l x _ ?_
 unfold P39 idx
 rw[zem (l:=l.l) (· ==x) (fun k=>Sum.inr (k:Int)) (Sum.inl ()) ?_ ?_,Option.bind_some]
 ·rcases List.findIdx? (· ==x) l.l with _|k<;>rfl
 ·intro k hk
  have hw:=zaT (show k<2^62 by omega)
  simp only[zeq,zby hk,Option.bind_some,hw]
  rw[if_pos (decide_eq_true (by omega))]
  split<;>rfl
 ·simp only[zeq]
  rw[if_neg (by simp)]
def sgn (n:Int):Int:=if n<0 then-1 else if 0<n then 1 else 0
theorem zrU (n:Int):pc prog 63 [.int .i64 n]=some (.int .i64 (sgn n)):=by
 refine zNR n _ ?_
 unfold P63 sgn
 by_cases h1:n<0
 ·rw[if_pos (decide_eq_true h1),if_pos h1]
 ·rw[if_neg (by simpa using h1),if_neg h1]
  by_cases h2:0<n
  ·rw[if_pos (decide_eq_true h2),if_pos h2]
  ·rw[if_neg (by simpa using h2),if_neg h2]
def sib (f:List Node) (x k:Int):Int:=if par f x=0 then 0 else if idx (kidsL f (par f x)) x+k<0 then 0 else(kidsL f (par f x)).getD (idx (kidsL f (par f x)) x+k).toNat 0
theorem zio (f:Forest) (x k:Int) (hf:Fit f.nodes.l) (hk: -1≤k∧k≤1):pc prog 185 [eForest f,.int .i64 x,.int .i64 k]=some (.int .i64 (sib f.nodes.l x k)):=by
 refine zLZ f x k _ ?_
 unfold zLY sib
 rw[zdC f x hf.1,zap (e:=eNode),Option.bind_some]
 by_cases hp:par f.nodes.l x=0
 ·rw[if_pos (by unfold par at hp;simp[hp]),if_pos hp]
 ·have hl:=zdN hf (par f.nodes.l x)
  have h1:=zyD (l:=kidsL f.nodes.l (par f.nodes.l x)) (x:=x)
  have h2:=zyE (l:=kidsL f.nodes.l (par f.nodes.l x)) (x:=x)
  rw[if_neg (by unfold par at hp;simp[hp]),if_neg hp,zdC f _ hf.1,zap (e:=eNode),Option.bind_some]
  rw[show(nodeD f.nodes.l x).parent=par f.nodes.l x from rfl,zoS _ _ hl,zap (e:=D.int .i64),Option.bind_some]
  rw[show(nodeD f.nodes.l (par f.nodes.l x)).kids.l=kidsL f.nodes.l (par f.nodes.l x)from rfl]
  have hl':(kidsL f.nodes.l (par f.nodes.l x)).length≤2^40:=hl
  generalize hi:idx (kidsL f.nodes.l (par f.nodes.l x)) x=i at h1 h2
  generalize kidsL f.nodes.l (par f.nodes.l x)=l at h1 hl'
  rw[w64 (by omega) (by omega),bor]
  by_cases h3:i+k<0
  ·rw[if_pos (by simp[h3]),if_pos h3]
  ·rw[if_neg h3]
   by_cases h4:(l.length:Int)≤i+k
   ·rw[if_pos (by simp[h4]),List.getD_eq_getElem?_getD,List.getElem?_eq_none (by omega)];rfl
   ·rw[if_neg (by simp;omega)]
    unfold rd
    rw[if_pos (by omega),List.getD_eq_getElem?_getD,List.getElem?_eq_getElem (by omega)];rfl
theorem zyM (f:Forest) (x:Int) (hf:Fit f.nodes.l):pc prog 184 [eForest f,.int .i64 x,.bool false]=some (.int .i64 ((kidsL f.nodes.l x).headD 0)):=by
 refine zLX f x false _ ?_
 unfold zLW
 rw[zdC f x hf.1,zap (e:=eNode),Option.bind_some,show(nodeD f.nodes.l x).kids.l=kidsL f.nodes.l x from rfl]
 rcases h:kidsL f.nodes.l x with _|⟨k,r⟩
 ·rfl
 ·rw[if_neg (by simp;omega),if_neg (by simp)];rfl
theorem zIY {f:List Node} {h x:Int} (hr:zaO f) (hh:isN f h) (hx:x∈kidsL f h):∃i,∃hi:i<(kidsL f h).length,(kidsL f h)[i]=x∧idx (kidsL f h) x=i:=zil hx
theorem ztX {α:Type} {l:List α} {i:Nat} {a:α} (hi:i<l.length) (e:l[i]=a):l=l.take i++a::l.drop (i+1):=by
 subst e
 rw[List.getElem_cons_drop,List.take_append_drop]
def nxO (post:List Int) (x:Int):Int⊕(Int×Int):=match post with|[]=> .inl 0|k::_=> .inr (k,x)
theorem ztY (f:Forest) (hf:Fit f.nodes.l) (hr:zaO f.nodes.l):∀a,isN f.nodes.l a→∃pre post,zbG f.nodes.l (root f.nodes.l a)=pre++zbG f.nodes.l a++post∧∃x,zaQ (zbX f) a=some (nxO post x):=by
 refine zcM hr (fun h hh hk=>absurd hk hh) fun a ha ih _=> ?_
 have hne:(!(a==0))=true:=by unfold isN at ha;simp;omega
 by_cases hp:par f.nodes.l a=0
 ·refine⟨[],[],by rw[zji hr ha hp,List.nil_append,List.append_nil],0,?_⟩
  rw[zaM (y:=0)]
  ·exact zaz (by simp only[zbX];rfl)
  ·simp only[zbX]
   rw[if_pos hne,zio f a 1 hf (by omega),zap (e:=D.int .i64),Option.bind_some,if_neg (by unfold sib;rw[if_pos hp];simp),zdC f a hf.1,zap (e:=eNode),Option.bind_some]
   unfold par at hp;rw[hp]
 ·obtain⟨_,hpN,hmem,_⟩:=zeO hr hp
  obtain⟨pre,post,h1,x,h2⟩:=ih hpN
  obtain⟨i,hi,e1,e2⟩:=zIY hr hpN hmem
  have hk:kidsL f.nodes.l (par f.nodes.l a)=(kidsL f.nodes.l (par f.nodes.l a)).take i++a::(kidsL f.nodes.l (par f.nodes.l a)).drop (i+1):=ztX hi e1
  have hall:zbG f.nodes.l (par f.nodes.l a)=par f.nodes.l a::(((kidsL f.nodes.l (par f.nodes.l a)).take i).flatMap (zbG f.nodes.l)++(zbG f.nodes.l a++((kidsL f.nodes.l (par f.nodes.l a)).drop (i+1)).flatMap (zbG f.nodes.l))):=by
   rw[all_in hr hpN]
   conv=>lhs;rw[hk]
   rw[List.flatMap_append,List.flatMap_cons]
  refine⟨pre++par f.nodes.l a::((kidsL f.nodes.l (par f.nodes.l a)).take i).flatMap (zbG f.nodes.l),((kidsL f.nodes.l (par f.nodes.l a)).drop (i+1)).flatMap (zbG f.nodes.l)++post,?_,?_⟩
  ·rw[zjj hr hp,h1,hall];simp only[List.append_assoc,List.cons_append]
  ·have hs:sib f.nodes.l a 1=(kidsL f.nodes.l (par f.nodes.l a)).getD (i+1) 0:=by
    unfold sib
    rw[if_neg hp,e2,if_neg (by omega)];congr 1
   by_cases hlt:i+1<(kidsL f.nodes.l (par f.nodes.l a)).length
   ·have hs2:sib f.nodes.l a 1=(kidsL f.nodes.l (par f.nodes.l a))[i+1]:=by rw[hs,List.getD_eq_getElem?_getD,List.getElem?_eq_getElem hlt];rfl
    have hkN:=(zca hr (List.getElem_mem hlt)).2.1
    refine⟨a,?_⟩
    rw[List.drop_eq_getElem_cons hlt,List.flatMap_cons,all_in hr hkN]
    refine zaz ?_
    simp only[zbX]
    rw[if_pos hne,zio f a 1 hf (by omega),zap (e:=D.int .i64),Option.bind_some,hs2,if_pos (by unfold isN at hkN;simp;omega)]
    rfl
   ·refine⟨x,?_⟩
    rw[List.drop_eq_nil_of_le (by omega),List.flatMap_nil,List.nil_append,←h2]
    refine zaM ?_
    simp only[zbX]
    rw[if_pos hne,zio f a 1 hf (by omega),zap (e:=D.int .i64),Option.bind_some,hs,List.getD_eq_getElem?_getD,List.getElem?_eq_none (by omega),if_neg (by simp),zdC f a hf.1,zap (e:=eNode),Option.bind_some]
    rfl
theorem ztZ (f:Forest) (hf:Fit f.nodes.l) (hr:zaO f.nodes.l) (a:Int) (ha:isN f.nodes.l a):∃pre post,zbG f.nodes.l (root f.nodes.l a)=pre++a::post∧pc prog 136 [eForest f,.int .i64 a]=some (.int .i64 (post.headD 0)):=by
 obtain⟨pre,post,h1,x,h2⟩:=ztY f hf hr a ha
 refine⟨pre,(kidsL f.nodes.l a).flatMap (zbG f.nodes.l)++post,by rw[h1,all_in hr ha];simp,?_⟩
 refine zLF f a _ ?_
 unfold zLE
 rw[zyM f a hf,zap (e:=D.int .i64),Option.bind_some]
 rcases hk:kidsL f.nodes.l a with _|⟨k,r⟩
 ·rw[if_neg (by simp),h2]
  rcases post with _|⟨y,post⟩<;>rfl
 ·have hkN:=(zca hr (show k∈kidsL f.nodes.l a by rw[hk];simp)).2.1
  rw[if_pos (by unfold isN at hkN;simp;omega),List.flatMap_cons,all_in hr hkN];rfl
theorem zCm (f:Forest) (a:Int) (hf:Fit f.nodes.l) (h0:zaI f.nodes.l [a]=0):∃pre post,zbG f.nodes.l (root f.nodes.l a)=pre++a::post∧pc prog 62 [eForest f,.int .i64 a]=some (eT2 (D.int .i64) (D.int .i64) (post.headD 0,0)):=by
 obtain⟨hr,hh⟩:=zaG.1 h0
 obtain⟨pre,post,h1,h2⟩:=ztZ f hf hr a (hh a (by simp))
 refine⟨pre,post,h1,?_⟩
 refine zNA f a _ ?_
 unfold P62
 rw[zer f a hf,zap (e:=D.int .i64),Option.bind_some,if_neg (by simp[h0]),h2,zap (e:=D.int .i64),Option.bind_some]
end Go.Proofs.Ytfleilibjdgcjaa.O
