/- Shaken copy of a longer text: what one law needs. Its conditions: none. -/
import Derived.Test.YthodcjjgimeeoaaGreatZPSpFo9
set_option linter.unusedSimpArgs false
set_option linter.unusedVariables false
set_option linter.unusedSimpArgs false
set_option linter.unusedVariables false
set_option linter.unusedSectionVars false
set_option linter.unnecessarySimpa false
namespace Go.Proofs.YthodcjjgimeeoaaGreat.P
open Go.AI
theorem zEj {f:List Node} (hr:zaJ f) (h:Int):nx f h=0∨isN f (nx f h):=by
 by_cases hh:isN f h
 ·have L:=zda hr hh
  unfold nx zeJ
  by_cases hk:(nodeD f h).kind=12
  ·rw[if_pos (by simp[hk])];exact .inr (L.host hk).1
  ·rw[if_neg (by simp[hk])]
   rcases L.par with h1|h1
   ·exact .inl h1
   ·exact .inr h1.1
 ·left;unfold nx;rw[zfG hh];rfl
def upP (f:List Node):Nat→Int→List Int
 |0,_=>[]
 |n+1,h=>if isN f h then h::upP f n (nx f h)else[]
def upc (f:List Node) (h:Int):List Int:=upP f (f.length+1) h
theorem zrz {f:List Node} {h:Int} (hh:¬isN f h):∀n,upP f n h=[]
 |0=>rfl
 |n+1=>by unfold upP;rw[if_neg hh]
theorem zma {f:List Node} (hr:zaJ f):∀n h,dA f h≤n→upP f (n+1) h=upP f n h
 |0,h,hd=>by
  by_cases hh:isN f h
  ·have:=zdY hr hh;omega
  ·rw[zrz hh,zrz hh]
 |n+1,h,hd=>by
  show(if isN f h then h::upP f (n+1) (nx f h)else[])=(if isN f h then h::upP f n (nx f h)else[])
  by_cases hh:isN f h
  ·have:=zdY hr hh
   rw[if_pos hh,if_pos hh,zma hr n _ (by omega)]
  ·rw[if_neg hh,if_neg hh]
theorem zdi {f:List Node} {h:Int} (hh:¬isN f h):upc f h=[]:=zrz hh _
theorem zdZ {f:List Node} {h:Int} (hr:zaJ f) (hh:isN f h):upc f h=h::upc f (nx f h):=by
 show(if isN f h then h::upP f f.length (nx f h)else[])=_
 have h1:=zdY hr hh
 have h2:=zvy f h
 rw[if_pos hh]
 unfold upc
 rw[zma hr f.length _ (by omega)]
theorem zns {f:List Node} (hr:zaJ f) {k:Int}:∀b,k∈upc f b→isN f k∧isN f b:=by
 refine zfo hr (fun h hh hk=>by rw[zdi hh]at hk;cases hk) fun h hh ih hk=> ?_
 rw[zdZ hr hh]at hk
 rcases List.mem_cons.1 hk with rfl|hk
 ·exact⟨hh,hh⟩
 ·exact⟨(ih hk).1,hh⟩
theorem zgq {f:List Node} {h:Int} (hr:zaJ f) (hh:isN f h):h∈upc f h:=by rw[zdZ hr hh];exact List.mem_cons_self
theorem zpE {f:List Node} (hr:zaJ f) {k:Int} (hp:isN f (nx f k)):∀b,k∈upc f b→nx f k∈upc f b:=by
 refine zfo hr (fun h hh hk=>by rw[zdi hh]at hk;cases hk) fun h hh ih hk=> ?_
 rw[zdZ hr hh]at hk⊢
 rcases List.mem_cons.1 hk with rfl|hk
 ·exact List.mem_cons_of_mem _ (zgq hr hp)
 ·exact List.mem_cons_of_mem _ (ih hk)
theorem zAo {f:List Node} (hr:zaJ f) {a b:Int} (he:dA f a=dA f b):∀c,a∈upc f c→b∈upc f c→a=b:=by
 have le:∀{k:Int} (c:Int),k∈upc f c→dA f k≤dA f c:=by
  intro k
  refine zfo hr (fun h hh hk=>by rw[zdi hh]at hk;cases hk) fun h hh ih hk=> ?_
  rw[zdZ hr hh]at hk
  rcases List.mem_cons.1 hk with rfl|hk
  ·exact Nat.le_refl _
  ·have:=ih hk;have:=zdY hr hh;omega
 refine zfo hr (fun h hh hk=>by rw[zdi hh]at hk;cases hk) fun h hh ih h1 h2=> ?_
 rw[zdZ hr hh]at h1 h2
 have hd:=zdY hr hh
 rcases List.mem_cons.1 h1 with e1|h1
 ·rcases List.mem_cons.1 h2 with e2|h2
  ·rw[e1,e2]
  ·have:=le _ h2;rw[←he,e1]at this;omega
 ·rcases List.mem_cons.1 h2 with e2|h2
  ·have:=le _ h1;rw[he,e2]at this;omega
  ·exact ih h1 h2
def zkY (f:List Node):Nat→Int→List Int
 |0,_=>[]
 |n+1,h=>h::((if(nodeD f h).shadow=0 then[]else zkY f n (nodeD f h).shadow)++(kidsL f h).flatMap (zkY f n))
def zcF (f:List Node) (h:Int):List Int:=zkY f (f.length+1) h
theorem zci {f:List Node} {h:Int} (hr:zaJ f) (hs:(nodeD f h).shadow≠0):isN f h∧isN f (nodeD f h).shadow∧nx f (nodeD f h).shadow=h:=by
 have hh:isN f h:=Classical.byContradiction fun hno=>hs (by rw[zfG hno];rfl)
 rcases(zda hr hh).shadow with h1|⟨h1,h2,h3⟩
 ·exact absurd h1 hs
 ·refine⟨hh,h1,?_⟩
  unfold nx zeJ
  rw[if_pos (by simp[h2]),h3]
theorem zen {f:List Node} (hr:zaJ f):∀n h,f.length+2≤n+dA f h→zkY f (n+1) h=zkY f n h
 |0,h,hd=>by have:=zvy f h;omega
 |n+1,h,hd=>by
  show h::((if(nodeD f h).shadow=0 then[]else zkY f (n+1) (nodeD f h).shadow)++(kidsL f h).flatMap (zkY f (n+1)))=h::((if(nodeD f h).shadow=0 then[]else zkY f n (nodeD f h).shadow)++(kidsL f h).flatMap (zkY f n))
  rw[zhP fun k hk=>zen hr n k (by have:=zta hr hk;omega)]
  by_cases hs:(nodeD f h).shadow=0
  ·rw[if_pos hs,if_pos hs]
  ·obtain⟨h1,h2,h3⟩:=zci hr hs
   have:=zdY hr h2
   rw[h3]at this
   rw[if_neg hs,if_neg hs,zen hr n _ (by omega)]
theorem zea {f:List Node} {h:Int} (hr:zaJ f) (hh:isN f h):zcF f h=h::((if(nodeD f h).shadow=0 then[]else zcF f (nodeD f h).shadow)++(kidsL f h).flatMap (zcF f)):=by
 show h::((if(nodeD f h).shadow=0 then[]else zkY f f.length (nodeD f h).shadow)++(kidsL f h).flatMap (zkY f f.length))=_
 rw[zhP fun k hk=>(zen hr f.length k (by have:=zta hr hk;have:=zdY hr hh;omega)).symm]
 by_cases hs:(nodeD f h).shadow=0
 ·rw[if_pos hs,if_pos hs];rfl
 ·obtain⟨h1,h2,h3⟩:=zci hr hs
  have:=zdY hr h2
  have:=zdY hr hh
  rw[h3]at*
  rw[if_neg hs,if_neg hs,←zen hr f.length _ (by omega)];rfl
theorem zjV {f:List Node} (hr:zaJ f) {x:Int}:∀h,isN f h→x∈zcF f h→h∈upc f x:=by
 refine zjU hr fun h hh ih hx=> ?_
 rw[zea hr hh]at hx
 rcases List.mem_cons.1 hx with rfl|hx
 ·exact zgq hr hh
 ·rcases List.mem_append.1 hx with hx|hx
  ·by_cases hs:(nodeD f h).shadow=0
   ·rw[if_pos hs]at hx;cases hx
   ·rw[if_neg hs]at hx
    obtain⟨h1,h2,h3⟩:=zci hr hs
    have:=zpE hr (show isN f (nx f (nodeD f h).shadow) by rw[h3];exact hh) _ (ih _ h2 h3 hx)
    rwa [h3]at this
  ·obtain⟨k,hk,hx⟩:=List.mem_flatMap.1 hx
   obtain⟨_,h2,_,h3⟩:=zcO hr hk
   have:=zpE hr (show isN f (nx f k) by rw[h3];exact hh) _ (ih _ h2 h3 hx)
   rwa [h3]at this
theorem below {f:List Node} (hr:zaJ f) {h k:Int} (hk:isN f k) (e:nx f k=h) (hh:isN f h):k∈kidsL f h∨((nodeD f h).shadow≠0∧(nodeD f h).shadow=k):=by
 unfold nx zeJ at e
 by_cases h12:(nodeD f k).kind=12
 ·rw[if_pos (by simp[h12])]at e
  have:=(zda hr hk).host h12
  rw[e]at this
  right
  refine⟨?_,this.2.2.1⟩
  rw[this.2.2.1];intro h0;rw[h0]at hk;exact zbr hk
 ·rw[if_neg (by simp[h12])]at e
  exact .inl ((zAe hr hh).2 ⟨hk,e⟩)
theorem zvB {f:List Node} (hr:zaJ f) {x k:Int} (hk:isN f k) (e:nx f k=x):∀h,isN f h→x∈zcF f h→k∈zcF f h:=by
 refine zjU hr fun h hh ih hx=> ?_
 rw[zea hr hh]at hx⊢
 rcases List.mem_cons.1 hx with rfl|hx
 ·refine List.mem_cons_of_mem _ (List.mem_append.2 ?_)
  rcases below hr hk e hh with h1|⟨h1,h2⟩
  ·right
   exact List.mem_flatMap.2 ⟨k,h1,by rw[zea hr hk];exact List.mem_cons_self⟩
  ·left
   rw[if_neg h1,h2,zea hr hk];exact List.mem_cons_self
 ·refine List.mem_cons_of_mem _ (List.mem_append.2 ?_)
  rcases List.mem_append.1 hx with hx|hx
  ·left
   by_cases hs:(nodeD f h).shadow=0
   ·rw[if_pos hs]at hx;cases hx
   ·rw[if_neg hs]at hx⊢
    obtain⟨h1,h2,h3⟩:=zci hr hs
    exact ih _ h2 h3 hx
  ·right
   obtain⟨y,hy,hx⟩:=List.mem_flatMap.1 hx
   obtain⟨_,h2,_,h3⟩:=zcO hr hy
   exact List.mem_flatMap.2 ⟨y,hy,ih y h2 h3 hx⟩
theorem zEk {f:List Node} (hr:zaJ f) {h:Int}:∀b,h∈upc f b→b∈zcF f h:=by
 refine zfo hr (fun b hb hk=>by rw[zdi hb]at hk;cases hk) fun b hb ih hk=> ?_
 have hh:=(zns hr _ hk).1
 rw[zdZ hr hb]at hk
 rcases List.mem_cons.1 hk with rfl|hk
 ·rw[zea hr hh];exact List.mem_cons_self
 ·have hp:isN f (nx f b):=Classical.byContradiction fun hno=>by rw[zdi hno]at hk;cases hk
  exact zvB hr hb rfl h hh (ih hk)
theorem znt {f:List Node} (hr:zaJ f) {h b:Int} (hh:isN f h):b∈zcF f h↔h∈upc f b:=⟨zjV hr h hh,zEk hr b⟩
theorem zmb {f:List Node} (hr:zaJ f):∀h,isN f h→(zcF f h).Nodup:=by
 have lt:∀{h x k:Int},isN f k→nx f k=h→isN f h→x∈zcF f k→x≠h:=by
  intro h x k hk e hh hx hxe
  subst hxe
  have h1:=zjV hr k hk hx
  have h2:=zdY hr hk
  have:∀c,k∈upc f c→dA f k≤dA f c:=by
   refine zfo hr (fun h hh hk=>by rw[zdi hh]at hk;cases hk) fun h hh ih hk=> ?_
   rw[zdZ hr hh]at hk
   rcases List.mem_cons.1 hk with rfl|hk
   ·exact Nat.le_refl _
   ·have:=ih hk;have:=zdY hr hh;omega
  have:=this _ h1
  rw[e]at h2;omega
 have apart:∀{h k k' x:Int},isN f k→isN f k'→nx f k=h→nx f k'=h→x∈zcF f k→x∈zcF f k'→k=k':=by
  intro h k k' x hk hk' e e' hx hx'
  refine zAo hr ?_ x (zjV hr k hk hx) (zjV hr k' hk' hx')
  rw[zdY hr hk,zdY hr hk',e,e']
 refine zjU hr fun h hh ih=> ?_
 rw[zea hr hh]
 have hkids:((kidsL f h).flatMap (zcF f)).Nodup:=by
  have:∀l:List Int,l.Nodup→(∀k∈l,k∈kidsL f h)→(l.flatMap (zcF f)).Nodup:=by
   intro l
   induction l with
   |nil=>intro _ _;exact List.nodup_nil
   |cons k l ihl=>
    intro hn hk
    rw[List.flatMap_cons,List.nodup_append]
    rw[List.nodup_cons]at hn
    obtain⟨_,k2,_,k3⟩:=zcO hr (hk k (by simp))
    refine⟨ih k k2 k3,ihl hn.2 fun y hy=>hk y (by simp[hy]),?_⟩
    intro x hx y hy e
    subst e
    obtain⟨z,hz,hx'⟩:=List.mem_flatMap.1 hy
    obtain⟨_,z2,_,z3⟩:=zcO hr (hk z (by simp[hz]))
    have:=apart k2 z2 k3 z3 hx hx'
    subst this
    exact hn.1 hz
  exact this _ (zda hr hh).nodup fun k hk=>hk
 rw[List.nodup_cons,List.nodup_append]
 refine⟨?_,?_,hkids,?_⟩
 ·intro hm
  rcases List.mem_append.1 hm with hm|hm
  ·by_cases hs:(nodeD f h).shadow=0
   ·rw[if_pos hs]at hm;cases hm
   ·rw[if_neg hs]at hm
    obtain⟨h1,h2,h3⟩:=zci hr hs
    exact lt h2 h3 hh hm rfl
  ·obtain⟨y,hy,hx⟩:=List.mem_flatMap.1 hm
   obtain⟨_,h2,_,h3⟩:=zcO hr hy
   exact lt h2 h3 hh hx rfl
 ·by_cases hs:(nodeD f h).shadow=0
  ·rw[if_pos hs];exact List.nodup_nil
  ·rw[if_neg hs]
   obtain⟨h1,h2,h3⟩:=zci hr hs
   exact ih _ h2 h3
 ·intro x hx y hy e
  subst e
  by_cases hs:(nodeD f h).shadow=0
  ·rw[if_pos hs]at hx;cases hx
  ·rw[if_neg hs]at hx
   obtain⟨h1,h2,h3⟩:=zci hr hs
   obtain⟨z,hz,hx'⟩:=List.mem_flatMap.1 hy
   obtain⟨_,z2,z4,z3⟩:=zcO hr hz
   have:=apart h2 z2 h3 z3 hx hx'
   rw[←this]at z4
   rcases(zda hr h1).shadow with g|⟨_,g2,_⟩
   ·exact hs g
   ·have:=zsZ hr h2 g2
    rw[z4]at this
    rw[this]at hh;exact zbr hh
theorem zEl {f:List Node} (hr:zaJ f) {h:Int} (hh:isN f h):(zcF f h).length≤f.length:=by
 have hsub:zcF f h⊆(List.range f.length).map fun k:Nat=>((k:Int)+1):=by
  intro x hx
  have:=(zns hr _ ((znt hr hh).1 hx)).2
  unfold isN at this
  rw[List.mem_map]
  exact⟨(x-1).toNat,List.mem_range.2 (by omega),by omega⟩
 have:=(zmb hr h hh).length_le_of_subset hsub
 simpa using this
def zrA (f:List Node) (h:Int):Int:=(upc f h).getLast?.getD 0
theorem zHU {f:List Node} {h:Int} (hr:zaJ f) (hh:isN f h) (hp:nx f h=0):zrA f h=h:=by
 unfold zrA
 rw[zdZ hr hh,hp,zdi zbr];rfl
theorem zFm {f:List Node} {h:Int} (hr:zaJ f) (hh:isN f h) (hp:nx f h≠0):zrA f h=zrA f (nx f h):=by
 have h1:=(zEj hr h).resolve_left hp
 unfold zrA
 rw[zdZ hr hh,zdZ hr h1,List.getLast?_cons_cons]
theorem zAp {f:List Node} (hr:zaJ f):∀h,isN f h→zrA f h∈upc f h∧nx f (zrA f h)=0∧isN f (zrA f h):=by
 refine zfo hr (fun h hh hk=>absurd hk hh) fun h hh ih _=> ?_
 by_cases hp:nx f h=0
 ·rw[zHU hr hh hp];exact⟨zgq hr hh,hp,hh⟩
 ·obtain⟨g1,g2,g3⟩:=ih ((zEj hr h).resolve_left hp)
  rw[zFm hr hh hp]
  exact⟨by rw[zdZ hr hh];exact List.mem_cons_of_mem _ g1,g2,g3⟩
theorem zEm {f:List Node} (hr:zaJ f):∀h,isN f h→(zdw f h).Sublist (zcF f h):=by
 refine zhg hr fun h hh ih=> ?_
 rw[all_in hr hh,zea hr hh]
 refine List.Sublist.cons_cons _ (List.Sublist.trans ?_ (List.sublist_append_right _ _))
 have:∀l:List Int,(∀k∈l,k∈kidsL f h)→(l.flatMap (zdw f)).Sublist (l.flatMap (zcF f)):=by
  intro l
  induction l with
  |nil=>intro _;exact List.Sublist.refl _
  |cons k l ihl=>intro hk;rw[List.flatMap_cons,List.flatMap_cons];exact(ih k (hk k (by simp))).append (ihl fun y hy=>hk y (by simp[hy]))
 exact this _ fun k hk=>hk
end Go.Proofs.YthodcjjgimeeoaaGreat.P
