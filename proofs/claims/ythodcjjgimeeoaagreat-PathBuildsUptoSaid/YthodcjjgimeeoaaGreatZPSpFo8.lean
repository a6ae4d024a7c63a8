/- Shaken copy of a longer text: what one law needs. Its conditions: none. -/
import Derived.Test.YthodcjjgimeeoaaGreatZPSpFo7
set_option linter.unusedSimpArgs false
set_option linter.unusedVariables false
set_option linter.unusedSimpArgs false
set_option linter.unusedVariables false
set_option linter.unusedSectionVars false
set_option linter.unnecessarySimpa false
namespace Go.Proofs.YthodcjjgimeeoaaGreat.P
open Go.AI
def idx (l:List Int) (x:Int):Int:=match l.findIdx? (· ==x)with|some k=>(k:Int)|none=> -1
theorem zHR {l:List Int} {x:Int} {k:Nat} (h:l.findIdx? (· ==x)=some k):idx l x=k:=by unfold idx;rw[h]
theorem ziL {l:List Int} {x:Int}:0≤idx l x↔x∈l:=by
 unfold idx
 rcases e:l.findIdx? (· ==x)with _|k
 ·rw[List.findIdx?_eq_none_iff]at e
  constructor
  ·intro h;exact absurd h (by simp)
  ·intro hx;have:=e x hx;simp at this
 ·rw[List.findIdx?_eq_some_iff_getElem]at e
  obtain⟨h1,h2,-⟩:=e
  simp only[beq_iff_eq]at h2
  constructor
  ·intro _;rw[←h2];exact List.getElem_mem _
  ·intro _;exact Int.natCast_nonneg k
theorem zHS {l:List Int} {x:Int} (h:x∉l):idx l x= -1:=by
 unfold idx
 rcases e:l.findIdx? (· ==x)with _|k
 ·rfl
 ·rw[List.findIdx?_eq_some_iff_getElem]at e
  obtain⟨h1,h2,-⟩:=e
  simp only[beq_iff_eq]at h2
  exact absurd (by rw[←h2];exact List.getElem_mem _) h
theorem zAi {l:List Int} (hn:l.Nodup) {i:Nat} (hi:i<l.length):idx l l[i]=i:=by
 refine zHR (List.findIdx?_eq_some_iff_getElem.2 ⟨hi,by simp,fun j hj=> ?_⟩)
 have:=List.pairwise_iff_getElem.1 (List.nodup_iff_pairwise_ne.1 hn) j i (by omega) hi hj
 simpa using this
theorem zHT {l:List Int} {x:Int} (h:x∈l):∃i:Nat,∃hi:i<l.length,l[i]=x∧idx l x=i:=by
 have h0:=ziL.2 h
 unfold idx at h0⊢
 rcases e:l.findIdx? (· ==x)with _|k
 ·rw[e]at h0;exact absurd h0 (by simp)
 ·rw[List.findIdx?_eq_some_iff_getElem]at e
  obtain⟨h1,h2,-⟩:=e
  simp only[beq_iff_eq]at h2
  exact⟨k,h1,h2,rfl⟩
theorem zLl {l:List Int} {x:Int}:idx l x<l.length:=by
 by_cases h:x∈l
 ·obtain⟨i,hi,_,e⟩:=zHT h;omega
 ·rw[zHS h];omega
def plc (f:List Node) (h:Int):Int:=max (idx (kidsL f (par f h)) h) 0
def way (f:List Node) (h:Int):List Int:=((anc f h).map (plc f)).reverse
theorem ztb {f:List Node} {h:Int} (hr:zaJ f) (hh:isN f h):way f h=way f (par f h)++[plc f h]:=by
 unfold way
 rw[zgJ hr hh];simp
def cmpL:List Int→List Int→Int
 |[],[]=>0
 |[],_::_=> -1
 |_::_,[]=>1
 |a::x,b::y=>if a<b then-1 else if b<a then 1 else cmpL x y
theorem zpD:∀a,cmpL a a=0
 |[]=>rfl
 |a::x=>by unfold cmpL;rw[if_neg (by omega),if_neg (by omega),zpD x]
theorem znr:∀p a b,cmpL (p++a) (p++b)=cmpL a b
 |[],_,_=>rfl
 |c::p,a,b=>by
  show(if c<c then-1 else if c<c then 1 else cmpL (p++a) (p++b))=_
  rw[if_neg (by omega),if_neg (by omega),znr p a b]
theorem zEi (p:List Int) (c:Int) (s:List Int):cmpL p (p++c::s)= -1:=by
 have:=znr p [] (c::s)
 rw[List.append_nil]at this
 rw[this];rfl
theorem zrx {f:List Node} (hr:zaJ f) {x:Int}:∀k,isN f k→x∈zdw f k→∃s,way f x=way f k++s:=by
 refine zhg hr fun h hh ih hx=> ?_
 rw[all_in hr hh]at hx
 rcases List.mem_cons.1 hx with rfl|hx
 ·exact⟨[],by rw[List.append_nil]⟩
 ·obtain⟨k,hk,hx⟩:=List.mem_flatMap.1 hx
  obtain⟨s,hs⟩:=ih k hk hx
  obtain⟨_,h1,e,_⟩:=zcO hr hk
  refine⟨plc f k::s,?_⟩
  rw[hs,ztb hr h1,e,List.append_assoc];rfl
theorem zAj {f:List Node} {h:Int} (hr:zaJ f) (hh:isN f h) {i:Nat} (hi:i<(kidsL f h).length):plc f (kidsL f h)[i]=i:=by
 have hm:(kidsL f h)[i]∈kidsL f h:=List.getElem_mem hi
 unfold plc
 rw[(zcO hr hm).2.2.1,zAi (zda hr hh).nodup hi];omega
theorem zvz {f:List Node} (hr:zaJ f):∀h,isN f h→(zdw f h).Pairwise (fun x y=>cmpL (way f x) (way f y)= -1):=by
 refine zhg hr fun h hh ih=> ?_
 rw[all_in hr hh,List.pairwise_cons,List.pairwise_flatMap]
 refine⟨fun x hx=> ?_,fun k hk=>ih k hk,?_⟩
 ·obtain⟨k,hk,hx⟩:=List.mem_flatMap.1 hx
  obtain⟨_,h1,e,_⟩:=zcO hr hk
  obtain⟨s,hs⟩:=zrx hr k h1 hx
  rw[hs,ztb hr h1,e,List.append_assoc]
  exact zEi _ _ _
 ·rw[List.pairwise_iff_getElem]
  intro i j hi hj hij x hx y hy
  have hmi:=zcO hr (List.getElem_mem hi)
  have hmj:=zcO hr (List.getElem_mem hj)
  obtain⟨s,hs⟩:=zrx hr _ hmi.2.1 hx
  obtain⟨t,ht⟩:=zrx hr _ hmj.2.1 hy
  rw[hs,ht,ztb hr hmi.2.1,ztb hr hmj.2.1,hmi.2.2.1,hmj.2.2.1,zAj hr hh hi,zAj hr hh hj,List.append_assoc,List.append_assoc,znr]
  show(if(i:Int)<(j:Int)then(-1:Int)else _)= -1
  rw[if_pos (by omega)]
theorem zAk {f:List Node} (hr:zaJ f) {h:Int} (hh:isN f h):(zdw f h).Nodup:=by
 rw[List.nodup_iff_pairwise_ne]
 refine(zvz hr h hh).imp ?_
 intro a b hab e
 rw[e,zpD]at hab;cases hab
end Go.Proofs.YthodcjjgimeeoaaGreat.P
