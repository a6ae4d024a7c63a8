/- Shaken copy of a longer text: what one law needs. Its conditions: none. -/
import Derived.Test.YtfleilibjdgcjaaWBSpFo9
set_option linter.unusedSimpArgs false
set_option linter.unusedVariables false
set_option linter.unusedSimpArgs false
set_option linter.unusedVariables false
set_option linter.unusedSectionVars false
set_option linter.unnecessarySimpa false
namespace Go.Proofs.Ytfleilibjdgcjaa.B
open Go.AI
def zfm (f:List Node) (h:Int):Nat:=if zcC (nodeD f h).kind=true then(nodeD f h).data.l.length else(kidsL f h).length
def zDk (f:List Node) (h:Int) (i:Nat):Int:=(kidsL f h)[i]?.getD 0
def pce (f:List Node) (g:Int→List Bound) (h:Int) (i:Nat):List Bound:=(if 0<i∧zcC (nodeD f h).kind=false then g (zDk f h (i-1))else[])++[⟨h,(i:Int)⟩]
def ptP (f:List Node):Nat→Int→List Bound
 |0,_=>[]
 |n+1,h=>(List.range (zfm f h+1)).flatMap (pce f (ptP f n) h)
def zem (f:List Node) (h:Int):List Bound:=ptP f (f.length+1) h
theorem zcQ {f:List Node} {h:Int} (hd:zcC (nodeD f h).kind=false):zfm f h=(kidsL f h).length:=by unfold zfm;rw[hd];rfl
theorem zho {f:List Node} {h:Int} {i:Nat} (hi:i<(kidsL f h).length):zDk f h i=(kidsL f h)[i]:=by unfold zDk;rw[List.getElem?_eq_getElem hi];rfl
theorem zgA {f:List Node} {h:Int} {i:Nat} (hi:i<(kidsL f h).length):zDk f h i∈kidsL f h:=by rw[zho hi];exact List.getElem_mem hi
theorem znC {f:List Node} {g1 g2:Int→List Bound} {h:Int} {i:Nat} (hg:∀k∈kidsL f h,g1 k=g2 k) (hi:i∈List.range (zfm f h+1)):pce f g1 h i=pce f g2 h i:=by
 unfold pce
 by_cases hc:0<i∧zcC (nodeD f h).kind=false
 ·rw[List.mem_range,zcQ hc.2]at hi
  rw[if_pos hc,if_pos hc,hg _ (zgA (by omega))]
 ·rw[if_neg hc,if_neg hc]
theorem zkl {f:List Node} (hr:zaI f):∀n h,f.length+2≤n+dA f h→ptP f (n+1) h=ptP f n h
 |0,h,hd=>by have:=zAd f h;omega
 |n+1,h,hd=>by
  show(List.range (zfm f h+1)).flatMap (pce f (ptP f (n+1)) h)=(List.range (zfm f h+1)).flatMap (pce f (ptP f n) h)
  exact zgy fun i hi=>znC (fun k hk=>zkl hr n k (by have:=zqw hr hk;omega)) hi
theorem zkm {f:List Node} {h:Int} (hr:zaI f) (hh:isN f h):zem f h=(List.range (zfm f h+1)).flatMap (pce f (zem f) h):=by
 show(List.range (zfm f h+1)).flatMap (pce f (ptP f f.length) h)=_
 exact zgy fun i hi=>znC (fun k hk=>(zkl hr f.length k (by have:=zqw hr hk;have:=zpj hr hh;omega)).symm) hi
theorem zwL {f:List Node} {h:Int} (hr:zaI f) (hh:isN f h) (hd:zcC (nodeD f h).kind=true):kidsL f h=[]:=by
 obtain⟨hm,-,-⟩:=zdO hr hh
 unfold zlu at hm
 simp only[Bool.and_eq_true]at hm
 have h1:=hm.1.1.1.1.2
 have h2:zpf (nodeD f h).kind=false:=by
  revert hd;unfold zcC zpf
  simp only[Bool.or_eq_true,beq_iff_eq]
  rintro(((e|e)|e)|e)<;>rw[e]<;>rfl
 rw[h2]at h1
 unfold kidsL
 simpa using h1
theorem zfQ {f:List Node} (hr:zaI f):∀h,isN f h→∀b:Bound,b∈zem f h↔h∈anc f b.node∧0≤b.offset∧b.offset≤zfm f b.node:=by
 refine zeh hr fun h hh ih b=> ?_
 rw[zkm hr hh,List.mem_flatMap]
 constructor
 ·rintro⟨i,hi,hb⟩
  rw[List.mem_range]at hi
  unfold pce at hb
  rcases List.mem_append.1 hb with hb|hb
  ·by_cases hc:0<i∧zcC (nodeD f h).kind=false
   ·rw[if_pos hc]at hb
    rw[zcQ hc.2]at hi
    have hk:=zgA (f:=f) (h:=h) (i:=i-1) (by omega)
    obtain⟨h1,h2⟩:=(ih _ hk b).1 hb
    have hp:=(zcK hr hk).2.2.1
    refine⟨?_,h2⟩
    have:=zAM hr (k:=zDk f h (i-1)) (by rw[hp];unfold isN at hh;omega) b.node h1
    rwa [hp]at this
   ·rw[if_neg hc]at hb;cases hb
  ·rw[List.mem_singleton]at hb
   subst hb
   exact⟨zdt hr hh,by show(0:Int)≤(i:Int);omega,by show(i:Int)≤(zfm f h:Int);omega⟩
 ·rintro⟨h1,h2,h3⟩
  have h4:=zjl hr b.node h1
  rw[all_in hr hh]at h4
  rcases List.mem_cons.1 h4 with e|h4
  ·refine⟨b.offset.toNat,List.mem_range.2 (by rw[←e];omega),?_⟩
   unfold pce
   refine List.mem_append.2 (.inr ?_)
   rw[List.mem_singleton,←e,show((b.offset.toNat:Nat):Int)=b.offset by omega]
  ·obtain⟨k,hk,h4⟩:=List.mem_flatMap.1 h4
   obtain⟨j,hj,rfl⟩:=List.getElem_of_mem hk
   have hkN:=(zcK hr hk).2.1
   have hd:zcC (nodeD f h).kind=false:=by
    cases hd:zcC (nodeD f h).kind with
    |false=>rfl
    |true=>rw[zwL hr hh hd]at hj;simp at hj
   refine⟨j+1,List.mem_range.2 (by rw[zcQ hd];omega),?_⟩
   unfold pce
   refine List.mem_append.2 (.inl ?_)
   rw[if_pos ⟨by omega,hd⟩,Nat.add_sub_cancel,zho hj]
   exact(ih _ hk b).2 ⟨zwE hr _ hkN h4,h2,h3⟩
def zhP (l:List Int):List Int:=l.map fun i=>2*i+1
def key (f:List Node) (b:Bound):List Int:=zhP (way f b.node)++[2*b.offset]
theorem zwM {f:List Node} {h:Int} (hr:zaI f) (hh:isN f h) {i:Nat} (hi:i<zfm f h+1) {x:Bound} (hx:x∈pce f (zem f) h i):∃c s,key f x=zhP (way f h)++c::s∧2*(i:Int)-1≤c∧c≤2*i:=by
 unfold pce at hx
 rcases List.mem_append.1 hx with hx|hx
 ·by_cases hc:0<i∧zcC (nodeD f h).kind=false
  ·rw[if_pos hc]at hx
   rw[zcQ hc.2]at hi
   have hlt:i-1<(kidsL f h).length:=by omega
   have hk:=zgA (f:=f) (h:=h) (i:=i-1) hlt
   obtain⟨_,hkN,hp,_⟩:=zcK hr hk
   obtain⟨s,hs⟩:=zhm hr _ hkN (zjl hr _ ((zfQ hr _ hkN x).1 hx).1)
   refine⟨2*((i:Int)-1)+1,zhP s++[2*x.offset],?_,by omega,by omega⟩
   unfold key
   rw[hs,zfv hr hkN,hp,zho hlt,zlz hr hh hlt]
   unfold zhP
   rw[List.map_append,List.map_append,List.append_assoc,List.append_assoc,show((i-1:Nat):Int)=(i:Int)-1 by omega]
   rfl
  ·rw[if_neg hc]at hx;cases hx
 ·rw[List.mem_singleton]at hx
  subst hx
  exact⟨2*i,[],rfl,by omega,by omega⟩
theorem zii (p:List Int) {c d:Int} {s t:List Int} (h:c<d):cmpL (p++c::s) (p++d::t)= -1:=by
 rw[zeW]
 show(if c<d then(-1:Int)else _)= -1
 rw[if_pos h]
theorem zhp {f:List Node} (hr:zaI f):∀h,isN f h→(zem f h).Pairwise (fun x y=>cmpL (key f x) (key f y)= -1):=by
 refine zeh hr fun h hh ih=> ?_
 rw[zkm hr hh,List.pairwise_flatMap]
 refine⟨fun i hi=> ?_,?_⟩
 ·rw[List.mem_range]at hi
  by_cases hc:0<i∧zcC (nodeD f h).kind=false
  ·have hi':=hi
   rw[zcQ hc.2]at hi'
   have hlt:i-1<(kidsL f h).length:=by omega
   have hk:=zgA (f:=f) (h:=h) (i:=i-1) hlt
   obtain⟨_,hkN,hp,_⟩:=zcK hr hk
   unfold pce
   rw[if_pos hc,List.pairwise_append]
   refine⟨ih _ hk,List.pairwise_singleton _ _,fun x hx y hy=> ?_⟩
   rw[List.mem_singleton]at hy
   subst hy
   obtain⟨s,hs⟩:=zhm hr _ hkN (zjl hr _ ((zfQ hr _ hkN x).1 hx).1)
   have e:key f x=zhP (way f h)++(2*((i:Int)-1)+1)::(zhP s++[2*x.offset]):=by
    unfold key
    rw[hs,zfv hr hkN,hp,zho hlt,zlz hr hh hlt]
    unfold zhP
    rw[List.map_append,List.map_append,List.append_assoc,List.append_assoc,show((i-1:Nat):Int)=(i:Int)-1 by omega]
    rfl
   rw[e]
   exact zii _ (by show 2*((i:Int)-1)+1<2*(i:Int);omega)
  ·unfold pce
   rw[if_neg hc]
   exact List.pairwise_singleton _ _
 ·rw[List.pairwise_iff_getElem]
  intro i j hi hj hij x hx y hy
  rw[List.length_range]at hi hj
  rw[List.getElem_range]at hx hy
  obtain⟨c,s,e1,_,h1⟩:=zwM hr hh hi hx
  obtain⟨d,t,e2,h2,_⟩:=zwM hr hh hj hy
  rw[e1,e2]
  exact zii _ (by omega)
theorem zjm:∀{u v:List Int},cmpL u v=0→u=v
 |[],[],_=>rfl
 |[],_::_,h=>by simp[cmpL]at h
 |_::_,[],h=>by simp[cmpL]at h
 |a::u,b::v,h=>by
  unfold cmpL at h
  by_cases h1:a<b
  ·rw[if_pos h1]at h;simp at h
  ·rw[if_neg h1]at h
   by_cases h2:b<a
   ·rw[if_pos h2]at h;simp at h
   ·rw[if_neg h2]at h
    rw[zjm h,show a=b by omega]
theorem zeX:∀{u v w:List Int},cmpL u v≤0→cmpL v w≤0→cmpL u w≤0
 |[],v,[],_,_=>by simp[cmpL]
 |[],v,_::_,_,_=>by simp[cmpL]
 |_::_,[],_,h,_=>by simp[cmpL]at h
 |a::u,b::v,[],_,h=>by simp[cmpL]at h
 |a::u,b::v,c::w,h,k=>by
  unfold cmpL at h k⊢
  by_cases h1:a<b
  ·by_cases k2:c<b
   ·rw[if_neg (by omega),if_pos k2]at k;omega
   ·rw[if_pos (by omega)];omega
  ·rw[if_neg h1]at h
   by_cases h2:b<a
   ·rw[if_pos h2]at h;omega
   ·rw[if_neg h2]at h
    obtain rfl:a=b:=by omega
    by_cases k1:a<c
    ·rw[if_pos k1];omega
    ·rw[if_neg k1]at k⊢
     by_cases k2:c<a
     ·rw[if_pos k2]at k;omega
     ·rw[if_neg k2]at k⊢
      exact zeX h k
theorem zwN:∀{u v:List Int},cmpL u v= -1→(∃i s,v=u++i::s)∨∀x y,cmpL (zhP u++x) (zhP v++y)= -1
 |[],[],h=>by simp[cmpL]at h
 |[],i::s,_=> .inl ⟨i,s,rfl⟩
 |_::_,[],h=>by simp[cmpL]at h
 |a::u,b::v,h=>by
  unfold cmpL at h
  by_cases h1:a<b
  ·refine .inr fun x y=> ?_
   show(if 2*a+1<2*b+1 then(-1:Int)else _)= -1
   rw[if_pos (by omega)]
  ·rw[if_neg h1]at h
   by_cases h2:b<a
   ·rw[if_pos h2]at h;simp at h
   ·rw[if_neg h2]at h
    obtain rfl:a=b:=by omega
    rcases zwN h with⟨i,s,rfl⟩|k
    ·exact .inl ⟨i,s,rfl⟩
    ·refine .inr fun x y=> ?_
     show(if 2*a+1<2*a+1 then(-1:Int)else if 2*a+1<2*a+1 then 1 else cmpL (zhP u++x) (zhP v++y))= -1
     rw[if_neg (by omega),if_neg (by omega)]
     exact k x y
theorem zDl {f:List Node} (hr:zaI f) {u:List Int} (hu:u≠[]):∀b,∀t,way f b=u++t→∃c∈anc f b,way f c=u:=by
 refine zdC hr (fun b hb t e=> ?_) fun b hb ih t e=> ?_
 ·unfold way at e
  rw[zcI hb]at e
  simp only[List.map_nil,List.reverse_nil]at e
  exact absurd (List.append_eq_nil_iff.1 e.symm).1 hu
 ·rcases List.eq_nil_or_concat t with rfl|⟨t',x,rfl⟩
  ·exact⟨b,zdt hr hb,by rw[e,List.append_nil]⟩
  ·rw[zfv hr hb,List.concat_eq_append,←List.append_assoc]at e
   obtain⟨c,h1,h2⟩:=ih t' (List.append_inj_left' e rfl)
   refine⟨c,?_,h2⟩
   rw[zdk hr hb];exact List.mem_cons_of_mem _ h1
theorem zGD {f:List Node} (hr:zaI f) {a:Int} (ha:isN f a):way f a≠[]:=by rw[zfv hr ha];simp
theorem zqx {f:List Node} (hr:zaI f) {c:Int} (hc:isN f c):∀b,c∈anc f b→root f c=root f b:=fun b h=>
 znx hr (zei hr c hc).2.1 b (zwD hr (zei hr c hc).1 b h)
theorem zwO {f:List Node} (hr:zaI f) {a b:Int} (ha:isN f a) (hb:isN f b) (he:root f a=root f b) (h:cmpL (way f a) (way f b)= -1):a∈anc f b∨∀x y,cmpL (zhP (way f a)++x) (zhP (way f b)++y)= -1:=by
 rcases zwN h with⟨i,s,e⟩|k
 ·obtain⟨c,h1,h2⟩:=zDl hr (zGD hr ha) b _ e
  obtain⟨hc,_⟩:=zlx hr b h1
  have hR:=(zei hr a ha).2.2
  have m1:=(mem_root hr ha ha).2 rfl
  have m2:=(mem_root hr ha hc).2 (by rw[he,zqx hr hc b h1])
  have:=zwI hr hR m1 m2
  rw[h2,zbU]at this
  obtain⟨i,hi,e1,e2⟩:=zfP m1
  obtain⟨j,hj,e3,e4⟩:=zfP m2
  rw[e2,e4]at this
  have hij:i=j:=by
   unfold zIb at this
   rcases Nat.lt_trichotomy i j with hl|hl|hl
   ·rw[if_pos (by omega)]at this;simp at this
   ·exact hl
   ·rw[if_neg (by omega),if_pos (by omega)]at this;simp at this
  subst hij
  rw[←e3,e1]at h1
  exact .inl h1
 ·exact .inr k
theorem zjn {α β γ:Type} {g:α→List β} {g':α→List γ} {c:Nat}:∀{l:List α},(∀a∈l,(g a).length≤(g' a).length*c)→(l.flatMap g).length≤(l.flatMap g').length*c
 |[],_=>by simp
 |a::l,h=>by
  have h1:=h a List.mem_cons_self
  have h2:=zjn (l:=l) fun b hb=>h b (List.mem_cons_of_mem _ hb)
  rw[List.flatMap_cons,List.flatMap_cons,List.length_append,List.length_append,Nat.add_mul]
  omega
theorem zqy {f:List Node} {g:Int→List Bound} {h:Int} (hd:zcC (nodeD f h).kind=true):∀n,((List.range n).flatMap (pce f g h)).length=n
 |0=>rfl
 |n+1=>by
  rw[List.range_succ,List.flatMap_append,List.length_append,zqy hd n,List.flatMap_singleton]
  unfold pce
  rw[if_neg (by rw[hd];simp)];rfl
theorem zwP {f:List Node} {g:Int→List Bound} {h:Int} (hd:zcC (nodeD f h).kind=false):∀n,n≤(kidsL f h).length→((List.range (n+1)).flatMap (pce f g h)).length=n+1+(((kidsL f h).take n).flatMap g).length
 |0,_=>by
  rw[List.range_one,List.flatMap_singleton]
  unfold pce
  rw[if_neg (by simp)];rfl
 |n+1,hn=>by
  rw[List.range_succ,List.flatMap_append,List.length_append,zwP hd n (by omega),List.flatMap_singleton,zDj (show n<(kidsL f h).length by omega),List.length_append]
  unfold pce
  rw[if_pos ⟨by omega,hd⟩,Nat.add_sub_cancel,zho (show n<(kidsL f h).length by omega),List.length_append,List.length_singleton]
  omega
theorem zDm {f:List Node} (hr:zaI f) {M:Nat} (hM:∀h,zfm f h≤M):∀h,isN f h→(zem f h).length≤(zhl f h).length*(M+1):=by
 refine zeh hr fun h hh ih=> ?_
 have h1:=zjn (l:=kidsL f h) (c:=M+1) ih
 have h2:=hM h
 rw[zkm hr hh,all_in hr hh,List.length_cons,Nat.add_mul]
 cases hd:zcC (nodeD f h).kind with
 |true=>rw[zqy hd];omega
 |false=>
  rw[zwP hd _ (by rw[zcQ hd];exact Nat.le_refl _),zcQ hd,List.take_length]
  rw[zcQ hd]at h2
  omega
end Go.Proofs.Ytfleilibjdgcjaa.B
