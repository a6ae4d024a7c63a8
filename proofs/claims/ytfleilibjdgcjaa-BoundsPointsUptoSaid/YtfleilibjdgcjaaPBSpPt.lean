/- Shaken copy of a longer text: what one law needs. Its conditions: none. -/
import Derived.Test.YtfleilibjdgcjaaPBSpFo9
set_option linter.unusedSimpArgs false
set_option linter.unusedVariables false
set_option linter.unusedSimpArgs false
set_option linter.unusedVariables false
set_option linter.unusedSectionVars false
set_option linter.unnecessarySimpa false
namespace Go.Proofs.Ytfleilibjdgcjaa.B
open Go.AI
def zey (f:List Node) (h:Int):Nat:=if zcc (nodeD f h).kind=true then(nodeD f h).data.l.length else(kidsL f h).length
def zuL (f:List Node) (h:Int) (i:Nat):Int:=(kidsL f h)[i]?.getD 0
def pce (f:List Node) (g:Int→List Bound) (h:Int) (i:Nat):List Bound:=(if 0<i∧zcc (nodeD f h).kind=false then g (zuL f h (i-1))else[])++[⟨h,(i:Int)⟩]
def ptP (f:List Node):Nat→Int→List Bound
 |0,_=>[]
 |n+1,h=>(List.range (zey f h+1)).flatMap (pce f (ptP f n) h)
def zdN (f:List Node) (h:Int):List Bound:=ptP f (f.length+1) h
theorem zcT {f:List Node} {h:Int} (hd:zcc (nodeD f h).kind=false):zey f h=(kidsL f h).length:=by unfold zey;rw[hd];rfl
theorem zgN {f:List Node} {h:Int} {i:Nat} (hi:i<(kidsL f h).length):zuL f h i=(kidsL f h)[i]:=by unfold zuL;rw[List.getElem?_eq_getElem hi];rfl
theorem zfQ {f:List Node} {h:Int} {i:Nat} (hi:i<(kidsL f h).length):zuL f h i∈kidsL f h:=by rw[zgN hi];exact List.getElem_mem hi
theorem zoT {f:List Node} {g1 g2:Int→List Bound} {h:Int} {i:Nat} (hg:∀k∈kidsL f h,g1 k=g2 k) (hi:i∈List.range (zey f h+1)):pce f g1 h i=pce f g2 h i:=by
 unfold pce
 by_cases hc:0<i∧zcc (nodeD f h).kind=false
 ·rw[List.mem_range,zcT hc.2]at hi
  rw[if_pos hc,if_pos hc,hg _ (zfQ (by omega))]
 ·rw[if_neg hc,if_neg hc]
theorem zlx {f:List Node} (hr:zaQ f):∀n h,f.length+2≤n+dA f h→ptP f (n+1) h=ptP f n h
 |0,h,hd=>by have:=zCK f h;omega
 |n+1,h,hd=>by
  show(List.range (zey f h+1)).flatMap (pce f (ptP f (n+1)) h)=(List.range (zey f h+1)).flatMap (pce f (ptP f n) h)
  exact zhu fun i hi=>zoT (fun k hk=>zlx hr n k (by have:=zsk hr hk;omega)) hi
theorem zly {f:List Node} {h:Int} (hr:zaQ f) (hh:isN f h):zdN f h=(List.range (zey f h+1)).flatMap (pce f (zdN f) h):=by
 show(List.range (zey f h+1)).flatMap (pce f (ptP f f.length) h)=_
 exact zhu fun i hi=>zoT (fun k hk=>(zlx hr f.length k (by have:=zsk hr hk;have:=zqB hr hh;omega)).symm) hi
theorem zzk {f:List Node} {h:Int} (hr:zaQ f) (hh:isN f h) (hd:zcc (nodeD f h).kind=true):kidsL f h=[]:=by
 obtain⟨hm,-,-⟩:=zew hr hh
 unfold ziL at hm
 simp only[Bool.and_eq_true]at hm
 have h1:=hm.1.1.1.1.2
 have h2:zko (nodeD f h).kind=false:=by
  revert hd;unfold zcc zko
  simp only[Bool.or_eq_true,beq_iff_eq]
  rintro(((e|e)|e)|e)<;>rw[e]<;>rfl
 rw[h2]at h1
 unfold kidsL
 simpa using h1
theorem zin {f:List Node} (hr:zaQ f):∀h,isN f h→∀b:Bound,b∈zdN f h↔h∈anc f b.node∧0≤b.offset∧b.offset≤zey f b.node:=by
 refine zef hr fun h hh ih b=> ?_
 rw[zly hr hh,List.mem_flatMap]
 constructor
 ·rintro⟨i,hi,hb⟩
  rw[List.mem_range]at hi
  unfold pce at hb
  rcases List.mem_append.1 hb with hb|hb
  ·by_cases hc:0<i∧zcc (nodeD f h).kind=false
   ·rw[if_pos hc]at hb
    rw[zcT hc.2]at hi
    have hk:=zfQ (f:=f) (h:=h) (i:=i-1) (by omega)
    obtain⟨h1,h2⟩:=(ih _ hk b).1 hb
    have hp:=(zcW hr hk).2.2.1
    refine⟨?_,h2⟩
    have:=zDw hr (k:=zuL f h (i-1)) (by rw[hp];unfold isN at hh;omega) b.node h1
    rwa [hp]at this
   ·rw[if_neg hc]at hb;cases hb
  ·rw[List.mem_singleton]at hb
   subst hb
   exact⟨zeQ hr hh,by show(0:Int)≤(i:Int);omega,by show(i:Int)≤(zey f h:Int);omega⟩
 ·rintro⟨h1,h2,h3⟩
  have h4:=zky hr b.node h1
  rw[all_in hr hh]at h4
  rcases List.mem_cons.1 h4 with e|h4
  ·refine⟨b.offset.toNat,List.mem_range.2 (by rw[←e];omega),?_⟩
   unfold pce
   refine List.mem_append.2 (.inr ?_)
   rw[List.mem_singleton,←e,show((b.offset.toNat:Nat):Int)=b.offset by omega]
  ·obtain⟨k,hk,h4⟩:=List.mem_flatMap.1 h4
   obtain⟨j,hj,rfl⟩:=List.getElem_of_mem hk
   have hkN:=(zcW hr hk).2.1
   have hd:zcc (nodeD f h).kind=false:=by
    cases hd:zcc (nodeD f h).kind with
    |false=>rfl
    |true=>rw[zzk hr hh hd]at hj;simp at hj
   refine⟨j+1,List.mem_range.2 (by rw[zcT hd];omega),?_⟩
   unfold pce
   refine List.mem_append.2 (.inl ?_)
   rw[if_pos ⟨by omega,hd⟩,Nat.add_sub_cancel,zgN hj]
   exact(ih _ hk b).2 ⟨zzc hr _ hkN h4,h2,h3⟩
def zpb (l:List Int):List Int:=l.map fun i=>2*i+1
def key (f:List Node) (b:Bound):List Int:=zpb (way f b.node)++[2*b.offset]
theorem zzl {f:List Node} {h:Int} (hr:zaQ f) (hh:isN f h) {i:Nat} (hi:i<zey f h+1) {x:Bound} (hx:x∈pce f (zdN f) h i):∃c s,key f x=zpb (way f h)++c::s∧2*(i:Int)-1≤c∧c≤2*i:=by
 unfold pce at hx
 rcases List.mem_append.1 hx with hx|hx
 ·by_cases hc:0<i∧zcc (nodeD f h).kind=false
  ·rw[if_pos hc]at hx
   rw[zcT hc.2]at hi
   have hlt:i-1<(kidsL f h).length:=by omega
   have hk:=zfQ (f:=f) (h:=h) (i:=i-1) hlt
   obtain⟨_,hkN,hp,_⟩:=zcW hr hk
   obtain⟨s,hs⟩:=zik hr _ hkN (zky hr _ ((zin hr _ hkN x).1 hx).1)
   refine⟨2*((i:Int)-1)+1,zpb s++[2*x.offset],?_,by omega,by omega⟩
   unfold key
   rw[hs,zhv hr hkN,hp,zgN hlt,zmJ hr hh hlt]
   unfold zpb
   rw[List.map_append,List.map_append,List.append_assoc,List.append_assoc,show((i-1:Nat):Int)=(i:Int)-1 by omega]
   rfl
  ·rw[if_neg hc]at hx;cases hx
 ·rw[List.mem_singleton]at hx
  subst hx
  exact⟨2*i,[],rfl,by omega,by omega⟩
theorem zsl (p:List Int) {c d:Int} {s t:List Int} (h:c<d):cmpL (p++c::s) (p++d::t)= -1:=by
 rw[zfP]
 show(if c<d then(-1:Int)else _)= -1
 rw[if_pos h]
theorem zlz {f:List Node} (hr:zaQ f):∀h,isN f h→(zdN f h).Pairwise (fun x y=>cmpL (key f x) (key f y)= -1):=by
 refine zef hr fun h hh ih=> ?_
 rw[zly hr hh,List.pairwise_flatMap]
 refine⟨fun i hi=> ?_,?_⟩
 ·rw[List.mem_range]at hi
  by_cases hc:0<i∧zcc (nodeD f h).kind=false
  ·have hi':=hi
   rw[zcT hc.2]at hi'
   have hlt:i-1<(kidsL f h).length:=by omega
   have hk:=zfQ (f:=f) (h:=h) (i:=i-1) hlt
   obtain⟨_,hkN,hp,_⟩:=zcW hr hk
   unfold pce
   rw[if_pos hc,List.pairwise_append]
   refine⟨ih _ hk,List.pairwise_singleton _ _,fun x hx y hy=> ?_⟩
   rw[List.mem_singleton]at hy
   subst hy
   obtain⟨s,hs⟩:=zik hr _ hkN (zky hr _ ((zin hr _ hkN x).1 hx).1)
   have e:key f x=zpb (way f h)++(2*((i:Int)-1)+1)::(zpb s++[2*x.offset]):=by
    unfold key
    rw[hs,zhv hr hkN,hp,zgN hlt,zmJ hr hh hlt]
    unfold zpb
    rw[List.map_append,List.map_append,List.append_assoc,List.append_assoc,show((i-1:Nat):Int)=(i:Int)-1 by omega]
    rfl
   rw[e]
   exact zsl _ (by show 2*((i:Int)-1)+1<2*(i:Int);omega)
  ·unfold pce
   rw[if_neg hc]
   exact List.pairwise_singleton _ _
 ·rw[List.pairwise_iff_getElem]
  intro i j hi hj hij x hx y hy
  rw[List.length_range]at hi hj
  rw[List.getElem_range]at hx hy
  obtain⟨c,s,e1,_,h1⟩:=zzl hr hh hi hx
  obtain⟨d,t,e2,h2,_⟩:=zzl hr hh hj hy
  rw[e1,e2]
  exact zsl _ (by omega)
theorem zzm:∀{u v:List Int},cmpL u v= -1→(∃i s,v=u++i::s)∨∀x y,cmpL (zpb u++x) (zpb v++y)= -1
 |[],[],h=>by simp[cmpL]at h
 |[],i::s,_=> .inl ⟨i,s,rfl⟩
 |_::_,[],h=>by simp[cmpL]at h
 |a::u,b::v,h=>by
  unfold cmpL at h
  by_cases h1:a<b
  ·refine .inr fun x y=> ?_
   show(if 2*a+1<2*b+1 then(-1:Int)else _)= -1
   rw[if_pos (by omega)]
  ·rw[if_neg h1]at h
   by_cases h2:b<a
   ·rw[if_pos h2]at h;simp at h
   ·rw[if_neg h2]at h
    obtain rfl:a=b:=by omega
    rcases zzm h with⟨i,s,rfl⟩|k
    ·exact .inl ⟨i,s,rfl⟩
    ·refine .inr fun x y=> ?_
     show(if 2*a+1<2*a+1 then(-1:Int)else if 2*a+1<2*a+1 then 1 else cmpL (zpb u++x) (zpb v++y))= -1
     rw[if_neg (by omega),if_neg (by omega)]
     exact k x y
theorem zGm {f:List Node} (hr:zaQ f) {u:List Int} (hu:u≠[]):∀b,∀t,way f b=u++t→∃c∈anc f b,way f c=u:=by
 refine zee hr (fun b hb t e=> ?_) fun b hb ih t e=> ?_
 ·unfold way at e
  rw[zdK hb]at e
  simp only[List.map_nil,List.reverse_nil]at e
  exact absurd (List.append_eq_nil_iff.1 e.symm).1 hu
 ·rcases List.eq_nil_or_concat t with rfl|⟨t',x,rfl⟩
  ·exact⟨b,zeQ hr hb,by rw[e,List.append_nil]⟩
  ·rw[zhv hr hb,List.concat_eq_append,←List.append_assoc]at e
   obtain⟨c,h1,h2⟩:=ih t' (List.append_inj_left' e rfl)
   refine⟨c,?_,h2⟩
   rw[zdW hr hb];exact List.mem_cons_of_mem _ h1
theorem zJD {f:List Node} (hr:zaQ f) {a:Int} (ha:isN f a):way f a≠[]:=by rw[zhv hr ha];simp
theorem zsm {f:List Node} (hr:zaQ f) {c:Int} (hc:isN f c):∀b,c∈anc f b→root f c=root f b:=fun b h=>
 zoQ hr (zdh hr c hc).2.1 b (zzb hr (zdh hr c hc).1 b h)
theorem zzn {f:List Node} (hr:zaQ f) {a b:Int} (ha:isN f a) (hb:isN f b) (he:root f a=root f b) (h:cmpL (way f a) (way f b)= -1):a∈anc f b∨∀x y,cmpL (zpb (way f a)++x) (zpb (way f b)++y)= -1:=by
 rcases zzm h with⟨i,s,e⟩|k
 ·obtain⟨c,h1,h2⟩:=zGm hr (zJD hr ha) b _ e
  obtain⟨hc,_⟩:=zmI hr b h1
  have hR:=(zdh hr a ha).2.2
  have m1:=(mem_root hr ha ha).2 rfl
  have m2:=(mem_root hr ha hc).2 (by rw[he,zsm hr hc b h1])
  have:=zzg hr hR m1 m2
  rw[h2,zdL]at this
  obtain⟨i,hi,e1,e2⟩:=zij m1
  obtain⟨j,hj,e3,e4⟩:=zij m2
  rw[e2,e4]at this
  have hij:i=j:=by
   unfold zLM at this
   rcases Nat.lt_trichotomy i j with hl|hl|hl
   ·rw[if_pos (by omega)]at this;simp at this
   ·exact hl
   ·rw[if_neg (by omega),if_pos (by omega)]at this;simp at this
  subst hij
  rw[←e3,e1]at h1
  exact .inl h1
 ·exact .inr k
theorem zkz {α β γ:Type} {g:α→List β} {g':α→List γ} {c:Nat}:∀{l:List α},(∀a∈l,(g a).length≤(g' a).length*c)→(l.flatMap g).length≤(l.flatMap g').length*c
 |[],_=>by simp
 |a::l,h=>by
  have h1:=h a List.mem_cons_self
  have h2:=zkz (l:=l) fun b hb=>h b (List.mem_cons_of_mem _ hb)
  rw[List.flatMap_cons,List.flatMap_cons,List.length_append,List.length_append,Nat.add_mul]
  omega
theorem zsn {f:List Node} {g:Int→List Bound} {h:Int} (hd:zcc (nodeD f h).kind=true):∀n,((List.range n).flatMap (pce f g h)).length=n
 |0=>rfl
 |n+1=>by
  rw[List.range_succ,List.flatMap_append,List.length_append,zsn hd n,List.flatMap_singleton]
  unfold pce
  rw[if_neg (by rw[hd];simp)];rfl
theorem zzo {f:List Node} {g:Int→List Bound} {h:Int} (hd:zcc (nodeD f h).kind=false):∀n,n≤(kidsL f h).length→((List.range (n+1)).flatMap (pce f g h)).length=n+1+(((kidsL f h).take n).flatMap g).length
 |0,_=>by
  rw[List.range_one,List.flatMap_singleton]
  unfold pce
  rw[if_neg (by simp)];rfl
 |n+1,hn=>by
  rw[List.range_succ,List.flatMap_append,List.length_append,zzo hd n (by omega),List.flatMap_singleton,zGl (show n<(kidsL f h).length by omega),List.length_append]
  unfold pce
  rw[if_pos ⟨by omega,hd⟩,Nat.add_sub_cancel,zgN (show n<(kidsL f h).length by omega),List.length_append,List.length_singleton]
  omega
theorem zGn {f:List Node} (hr:zaQ f) {M:Nat} (hM:∀h,zey f h≤M):∀h,isN f h→(zdN f h).length≤(zii f h).length*(M+1):=by
 refine zef hr fun h hh ih=> ?_
 have h1:=zkz (l:=kidsL f h) (c:=M+1) ih
 have h2:=hM h
 rw[zly hr hh,all_in hr hh,List.length_cons,Nat.add_mul]
 cases hd:zcc (nodeD f h).kind with
 |true=>rw[zsn hd];omega
 |false=>
  rw[zzo hd _ (by rw[zcT hd];exact Nat.le_refl _),zcT hd,List.take_length]
  rw[zcT hd]at h2
  omega
end Go.Proofs.Ytfleilibjdgcjaa.B
