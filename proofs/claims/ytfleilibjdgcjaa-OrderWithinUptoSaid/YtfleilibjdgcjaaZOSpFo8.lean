/- Shaken copy of a longer text: what one law needs. Its conditions: none. -/
import Derived.Test.YtfleilibjdgcjaaZOSpFo7
set_option linter.unusedSimpArgs false
set_option linter.unusedVariables false
set_option linter.unusedSimpArgs false
set_option linter.unusedVariables false
set_option linter.unusedSectionVars false
set_option linter.unnecessarySimpa false
namespace Go.Proofs.Ytfleilibjdgcjaa.O
open Go.AI
def idx (l:List Int) (x:Int):Int:=match l.findIdx? (· ==x)with|some k=>(k:Int)|none=> -1
theorem zyC {l:List Int} {x:Int} {k:Nat} (h:l.findIdx? (· ==x)=some k):idx l x=k:=by unfold idx;rw[h]
theorem zkm {l:List Int} {x:Int}:0≤idx l x↔x∈l:=by
 unfold idx
 rcases e:l.findIdx? (· ==x)with _|k
 ·rw[List.findIdx?_eq_none_iff]at e
  constructor
  ·intro h;exact absurd h (by simp)
  ·intro hx;have:=e x hx;simp at this
 ·rw[List.findIdx?_eq_some_iff_getElem]at e
  obtain⟨h1,h2,-⟩:=e
  simp only[beq_iff_eq]at h2
  constructor
  ·intro _;rw[←h2];exact List.getElem_mem _
  ·intro _;exact Int.natCast_nonneg k
theorem zmC {l:List Int} {x:Int} (h:x∉l):idx l x= -1:=by
 unfold idx
 rcases e:l.findIdx? (· ==x)with _|k
 ·rfl
 ·rw[List.findIdx?_eq_some_iff_getElem]at e
  obtain⟨h1,h2,-⟩:=e
  simp only[beq_iff_eq]at h2
  exact absurd (by rw[←h2];exact List.getElem_mem _) h
theorem zIU {l:List Int} (hn:l.Nodup) {i:Nat} (hi:i<l.length):idx l l[i]=i:=by
 refine zyC (List.findIdx?_eq_some_iff_getElem.2 ⟨hi,by simp,fun j hj=> ?_⟩)
 have:=List.pairwise_iff_getElem.1 (List.nodup_iff_pairwise_ne.1 hn) j i (by omega) hi hj
 simpa using this
theorem zil {l:List Int} {x:Int} (h:x∈l):∃i:Nat,∃hi:i<l.length,l[i]=x∧idx l x=i:=by
 have h0:=zkm.2 h
 unfold idx at h0⊢
 rcases e:l.findIdx? (· ==x)with _|k
 ·rw[e]at h0;exact absurd h0 (by simp)
 ·rw[List.findIdx?_eq_some_iff_getElem]at e
  obtain⟨h1,h2,-⟩:=e
  simp only[beq_iff_eq]at h2
  exact⟨k,h1,h2,rfl⟩
theorem zyD {l:List Int} {x:Int}:idx l x<l.length:=by
 by_cases h:x∈l
 ·obtain⟨i,hi,_,e⟩:=zil h;omega
 ·rw[zmC h];omega
theorem zyE {l:List Int} {x:Int}: -1≤idx l x:=by
 by_cases h:x∈l
 ·have:=zkm.2 h;omega
 ·rw[zmC h];omega
def plc (f:List Node) (h:Int):Int:=max (idx (kidsL f (par f h)) h) 0
def way (f:List Node) (h:Int):List Int:=((anc f h).map (plc f)).reverse
theorem zrQ {f:List Node} {h:Int} (hr:zaO f) (hh:isN f h):way f h=way f (par f h)++[plc f h]:=by
 unfold way
 rw[zcn hr hh];simp
def cmpL:List Int→List Int→Int
 |[],[]=>0
 |[],_::_=> -1
 |_::_,[]=>1
 |a::x,b::y=>if a<b then-1 else if b<a then 1 else cmpL x y
theorem zkn:∀a,cmpL a a=0
 |[]=>rfl
 |a::x=>by unfold cmpL;rw[if_neg (by omega),if_neg (by omega),zkn x]
theorem zoP:∀a b,cmpL b a= -cmpL a b
 |[],[]=>rfl
 |[],_::_=>rfl
 |_::_,[]=>rfl
 |a::x,b::y=>by
  unfold cmpL
  by_cases h1:a<b
  ·rw[if_pos h1,if_neg (by omega),if_pos h1];rfl
  ·rw[if_neg h1]
   by_cases h2:b<a
   ·rw[if_pos h2,if_neg h1,if_pos h2]
   ·rw[if_neg h2,if_neg h2,if_neg h1,zoP x y]
theorem zmD:∀p a b,cmpL (p++a) (p++b)=cmpL a b
 |[],_,_=>rfl
 |c::p,a,b=>by
  show(if c<c then-1 else if c<c then 1 else cmpL (p++a) (p++b))=_
  rw[if_neg (by omega),if_neg (by omega),zmD p a b]
theorem zCg (p:List Int) (c:Int) (s:List Int):cmpL p (p++c::s)= -1:=by
 have:=zmD p [] (c::s)
 rw[List.append_nil]at this
 rw[this];rfl
theorem zqx {f:List Node} (hr:zaO f) {x:Int}:∀k,isN f k→x∈zbG f k→∃s,way f x=way f k++s:=by
 refine zik hr fun h hh ih hx=> ?_
 rw[all_in hr hh]at hx
 rcases List.mem_cons.1 hx with rfl|hx
 ·exact⟨[],by rw[List.append_nil]⟩
 ·obtain⟨k,hk,hx⟩:=List.mem_flatMap.1 hx
  obtain⟨s,hs⟩:=ih k hk hx
  obtain⟨_,h1,e,_⟩:=zca hr hk
  refine⟨plc f k::s,?_⟩
  rw[hs,zrQ hr h1,e,List.append_assoc];rfl
theorem zyF {f:List Node} {h:Int} (hr:zaO f) (hh:isN f h) {i:Nat} (hi:i<(kidsL f h).length):plc f (kidsL f h)[i]=i:=by
 have hm:(kidsL f h)[i]∈kidsL f h:=List.getElem_mem hi
 unfold plc
 rw[(zca hr hm).2.2.1,zIU (zdO hr hh).nodup hi];omega
theorem zlj {f:List Node} (hr:zaO f):∀h,isN f h→(zbG f h).Pairwise (fun x y=>cmpL (way f x) (way f y)= -1):=by
 refine zik hr fun h hh ih=> ?_
 rw[all_in hr hh,List.pairwise_cons,List.pairwise_flatMap]
 refine⟨fun x hx=> ?_,fun k hk=>ih k hk,?_⟩
 ·obtain⟨k,hk,hx⟩:=List.mem_flatMap.1 hx
  obtain⟨_,h1,e,_⟩:=zca hr hk
  obtain⟨s,hs⟩:=zqx hr k h1 hx
  rw[hs,zrQ hr h1,e,List.append_assoc]
  exact zCg _ _ _
 ·rw[List.pairwise_iff_getElem]
  intro i j hi hj hij x hx y hy
  have hmi:=zca hr (List.getElem_mem hi)
  have hmj:=zca hr (List.getElem_mem hj)
  obtain⟨s,hs⟩:=zqx hr _ hmi.2.1 hx
  obtain⟨t,ht⟩:=zqx hr _ hmj.2.1 hy
  rw[hs,ht,zrQ hr hmi.2.1,zrQ hr hmj.2.1,hmi.2.2.1,hmj.2.2.1,zyF hr hh hi,zyF hr hh hj,List.append_assoc,List.append_assoc,zmD]
  show(if(i:Int)<(j:Int)then(-1:Int)else _)= -1
  rw[if_pos (by omega)]
theorem zoQ {f:List Node} (hr:zaO f) {h:Int} (hh:isN f h):(zbG f h).Nodup:=by
 rw[List.nodup_iff_pairwise_ne]
 refine(zlj hr h hh).imp ?_
 intro a b hab e
 rw[e,zkn]at hab;cases hab
def zoR (m n:Int):Int:=if m<n then-1 else if n<m then 1 else 0
theorem zFx {f:List Node} (hr:zaO f) {h a b:Int} (hh:isN f h) (ha:a∈zbG f h) (hb:b∈zbG f h):cmpL (way f a) (way f b)=zoR (idx (zbG f h) a) (idx (zbG f h) b):=by
 obtain⟨i,hi,rfl,e1⟩:=zil ha
 obtain⟨j,hj,rfl,e2⟩:=zil hb
 have hs:=List.pairwise_iff_getElem.1 (zlj hr h hh)
 rw[e1,e2]
 unfold zoR
 rcases Nat.lt_trichotomy i j with hl|rfl|hl
 ·rw[if_pos (by omega),hs i j hi hj hl]
 ·rw[if_neg (by omega),if_neg (by omega),zkn]
 ·rw[if_neg (by omega),if_pos (by omega),zoP,hs j i hj hi hl];rfl
end Go.Proofs.Ytfleilibjdgcjaa.O
