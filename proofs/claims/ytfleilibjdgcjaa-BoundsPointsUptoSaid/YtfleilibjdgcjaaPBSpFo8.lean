/- Shaken copy of a longer text: what one law needs. Its conditions: none. -/
import Derived.Test.YtfleilibjdgcjaaPBSpFo7
set_option linter.unusedSimpArgs false
set_option linter.unusedVariables false
set_option linter.unusedSimpArgs false
set_option linter.unusedVariables false
set_option linter.unusedSectionVars false
set_option linter.unnecessarySimpa false
namespace Go.Proofs.Ytfleilibjdgcjaa.B
open Go.AI
def idx (l:List Int) (x:Int):Int:=match l.findIdx? (· ==x)with|some k=>(k:Int)|none=> -1
theorem zGj {l:List Int} {x:Int} {k:Nat} (h:l.findIdx? (· ==x)=some k):idx l x=k:=by unfold idx;rw[h]
theorem zGk {l:List Int} {x:Int}:0≤idx l x↔x∈l:=by
 unfold idx
 rcases e:l.findIdx? (· ==x)with _|k
 ·rw[List.findIdx?_eq_none_iff]at e
  constructor
  ·intro h;exact absurd h (by simp)
  ·intro hx;have:=e x hx;simp at this
 ·rw[List.findIdx?_eq_some_iff_getElem]at e
  obtain⟨h1,h2,-⟩:=e
  simp only[beq_iff_eq]at h2
  constructor
  ·intro _;rw[←h2];exact List.getElem_mem _
  ·intro _;exact Int.natCast_nonneg k
theorem zJA {l:List Int} (hn:l.Nodup) {i:Nat} (hi:i<l.length):idx l l[i]=i:=by
 refine zGj (List.findIdx?_eq_some_iff_getElem.2 ⟨hi,by simp,fun j hj=> ?_⟩)
 have:=List.pairwise_iff_getElem.1 (List.nodup_iff_pairwise_ne.1 hn) j i (by omega) hi hj
 simpa using this
theorem zij {l:List Int} {x:Int} (h:x∈l):∃i:Nat,∃hi:i<l.length,l[i]=x∧idx l x=i:=by
 have h0:=zGk.2 h
 unfold idx at h0⊢
 rcases e:l.findIdx? (· ==x)with _|k
 ·rw[e]at h0;exact absurd h0 (by simp)
 ·rw[List.findIdx?_eq_some_iff_getElem]at e
  obtain⟨h1,h2,-⟩:=e
  simp only[beq_iff_eq]at h2
  exact⟨k,h1,h2,rfl⟩
def plc (f:List Node) (h:Int):Int:=max (idx (kidsL f (par f h)) h) 0
def way (f:List Node) (h:Int):List Int:=((anc f h).map (plc f)).reverse
theorem zhv {f:List Node} {h:Int} (hr:zaQ f) (hh:isN f h):way f h=way f (par f h)++[plc f h]:=by
 unfold way
 rw[zdW hr hh];simp
def cmpL:List Int→List Int→Int
 |[],[]=>0
 |[],_::_=> -1
 |_::_,[]=>1
 |a::x,b::y=>if a<b then-1 else if b<a then 1 else cmpL x y
theorem zdL:∀a,cmpL a a=0
 |[]=>rfl
 |a::x=>by unfold cmpL;rw[if_neg (by omega),if_neg (by omega),zdL x]
theorem zdM:∀a b,cmpL b a= -cmpL a b
 |[],[]=>rfl
 |[],_::_=>rfl
 |_::_,[]=>rfl
 |a::x,b::y=>by
  unfold cmpL
  by_cases h1:a<b
  ·rw[if_pos h1,if_neg (by omega),if_pos h1];rfl
  ·rw[if_neg h1]
   by_cases h2:b<a
   ·rw[if_pos h2,if_neg h1,if_pos h2]
   ·rw[if_neg h2,if_neg h2,if_neg h1,zdM x y]
theorem zfP:∀p a b,cmpL (p++a) (p++b)=cmpL a b
 |[],_,_=>rfl
 |c::p,a,b=>by
  show(if c<c then-1 else if c<c then 1 else cmpL (p++a) (p++b))=_
  rw[if_neg (by omega),if_neg (by omega),zfP p a b]
theorem zCM (p:List Int) (c:Int) (s:List Int):cmpL p (p++c::s)= -1:=by
 have:=zfP p [] (c::s)
 rw[List.append_nil]at this
 rw[this];rfl
theorem zik {f:List Node} (hr:zaQ f) {x:Int}:∀k,isN f k→x∈zii f k→∃s,way f x=way f k++s:=by
 refine zef hr fun h hh ih hx=> ?_
 rw[all_in hr hh]at hx
 rcases List.mem_cons.1 hx with rfl|hx
 ·exact⟨[],by rw[List.append_nil]⟩
 ·obtain⟨k,hk,hx⟩:=List.mem_flatMap.1 hx
  obtain⟨s,hs⟩:=ih k hk hx
  obtain⟨_,h1,e,_⟩:=zcW hr hk
  refine⟨plc f k::s,?_⟩
  rw[hs,zhv hr h1,e,List.append_assoc];rfl
theorem zmJ {f:List Node} {h:Int} (hr:zaQ f) (hh:isN f h) {i:Nat} (hi:i<(kidsL f h).length):plc f (kidsL f h)[i]=i:=by
 have hm:(kidsL f h)[i]∈kidsL f h:=List.getElem_mem hi
 unfold plc
 rw[(zcW hr hm).2.2.1,zJA (zmG hr hh).nodup hi];omega
theorem zil {f:List Node} (hr:zaQ f):∀h,isN f h→(zii f h).Pairwise (fun x y=>cmpL (way f x) (way f y)= -1):=by
 refine zef hr fun h hh ih=> ?_
 rw[all_in hr hh,List.pairwise_cons,List.pairwise_flatMap]
 refine⟨fun x hx=> ?_,fun k hk=>ih k hk,?_⟩
 ·obtain⟨k,hk,hx⟩:=List.mem_flatMap.1 hx
  obtain⟨_,h1,e,_⟩:=zcW hr hk
  obtain⟨s,hs⟩:=zik hr k h1 hx
  rw[hs,zhv hr h1,e,List.append_assoc]
  exact zCM _ _ _
 ·rw[List.pairwise_iff_getElem]
  intro i j hi hj hij x hx y hy
  have hmi:=zcW hr (List.getElem_mem hi)
  have hmj:=zcW hr (List.getElem_mem hj)
  obtain⟨s,hs⟩:=zik hr _ hmi.2.1 hx
  obtain⟨t,ht⟩:=zik hr _ hmj.2.1 hy
  rw[hs,ht,zhv hr hmi.2.1,zhv hr hmj.2.1,hmi.2.2.1,hmj.2.2.1,zmJ hr hh hi,zmJ hr hh hj,List.append_assoc,List.append_assoc,zfP]
  show(if(i:Int)<(j:Int)then(-1:Int)else _)= -1
  rw[if_pos (by omega)]
theorem zzf {f:List Node} (hr:zaQ f) {h:Int} (hh:isN f h):(zii f h).Nodup:=by
 rw[List.nodup_iff_pairwise_ne]
 refine(zil hr h hh).imp ?_
 intro a b hab e
 rw[e,zdL]at hab;cases hab
def zLM (m n:Int):Int:=if m<n then-1 else if n<m then 1 else 0
theorem zzg {f:List Node} (hr:zaQ f) {h a b:Int} (hh:isN f h) (ha:a∈zii f h) (hb:b∈zii f h):cmpL (way f a) (way f b)=zLM (idx (zii f h) a) (idx (zii f h) b):=by
 obtain⟨i,hi,rfl,e1⟩:=zij ha
 obtain⟨j,hj,rfl,e2⟩:=zij hb
 have hs:=List.pairwise_iff_getElem.1 (zil hr h hh)
 rw[e1,e2]
 unfold zLM
 rcases Nat.lt_trichotomy i j with hl|rfl|hl
 ·rw[if_pos (by omega),hs i j hi hj hl]
 ·rw[if_neg (by omega),if_neg (by omega),zdL]
 ·rw[if_neg (by omega),if_pos (by omega),zdM,hs j i hj hi hl];rfl
end Go.Proofs.Ytfleilibjdgcjaa.B
