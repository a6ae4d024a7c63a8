/- Shaken copy of a longer text: what one law needs. Its conditions: none. -/
import Derived.Test.YthodcjjgimeeoaaZPSpFo9
set_option linter.unusedSimpArgs false
set_option linter.unusedVariables false
set_option linter.unusedSimpArgs false
set_option linter.unusedVariables false
set_option linter.unusedSectionVars false
set_option linter.unnecessarySimpa false
namespace Go.Proofs.Ythodcjjgimeeoaa.P
open Go.AI
theorem zFf {f:List Node} (hr:zaK f) (h:Int):nx f h=0∨isN f (nx f h):=by
 by_cases hh:isN f h
 ·have L:=zdg hr hh
  unfold nx zfW
  by_cases hk:(nodeD f h).kind=12
  ·rw[if_pos (by simp[hk])];exact .inr (L.host hk).1
  ·rw[if_neg (by simp[hk])]
   rcases L.par with h1|h1
   ·exact .inl h1
   ·exact .inr h1.1
 ·left;unfold nx;rw[zeY hh];rfl
def upP (f:List Node):Nat→Int→List Int
 |0,_=>[]
 |n+1,h=>if isN f h then h::upP f n (nx f h)else[]
def upc (f:List Node) (h:Int):List Int:=upP f (f.length+1) h
theorem zqb {f:List Node} {h:Int} (hh:¬isN f h):∀n,upP f n h=[]
 |0=>rfl
 |n+1=>by unfold upP;rw[if_neg hh]
theorem zkN {f:List Node} (hr:zaK f):∀n h,dA f h≤n→upP f (n+1) h=upP f n h
 |0,h,hd=>by
  by_cases hh:isN f h
  ·have:=zdI hr hh;omega
  ·rw[zqb hh,zqb hh]
 |n+1,h,hd=>by
  show(if isN f h then h::upP f (n+1) (nx f h)else[])=(if isN f h then h::upP f n (nx f h)else[])
  by_cases hh:isN f h
  ·have:=zdI hr hh
   rw[if_pos hh,if_pos hh,zkN hr n _ (by omega)]
  ·rw[if_neg hh,if_neg hh]
theorem zdJ {f:List Node} {h:Int} (hh:¬isN f h):upc f h=[]:=zqb hh _
theorem zdT {f:List Node} {h:Int} (hr:zaK f) (hh:isN f h):upc f h=h::upc f (nx f h):=by
 show(if isN f h then h::upP f f.length (nx f h)else[])=_
 have h1:=zdI hr hh
 have h2:=ztR f h
 rw[if_pos hh]
 unfold upc
 rw[zkN hr f.length _ (by omega)]
theorem zma {f:List Node} (hr:zaK f) {k:Int}:∀b,k∈upc f b→isN f k∧isN f b:=by
 refine zeZ hr (fun h hh hk=>by rw[zdJ hh]at hk;cases hk) fun h hh ih hk=> ?_
 rw[zdT hr hh]at hk
 rcases List.mem_cons.1 hk with rfl|hk
 ·exact⟨hh,hh⟩
 ·exact⟨(ih hk).1,hh⟩
theorem zfA {f:List Node} {h:Int} (hr:zaK f) (hh:isN f h):h∈upc f h:=by rw[zdT hr hh];exact List.mem_cons_self
theorem zoi {f:List Node} (hr:zaK f) {k:Int} (hp:isN f (nx f k)):∀b,k∈upc f b→nx f k∈upc f b:=by
 refine zeZ hr (fun h hh hk=>by rw[zdJ hh]at hk;cases hk) fun h hh ih hk=> ?_
 rw[zdT hr hh]at hk⊢
 rcases List.mem_cons.1 hk with rfl|hk
 ·exact List.mem_cons_of_mem _ (zfA hr hp)
 ·exact List.mem_cons_of_mem _ (ih hk)
theorem zym {f:List Node} (hr:zaK f) {a b:Int} (he:dA f a=dA f b):∀c,a∈upc f c→b∈upc f c→a=b:=by
 have le:∀{k:Int} (c:Int),k∈upc f c→dA f k≤dA f c:=by
  intro k
  refine zeZ hr (fun h hh hk=>by rw[zdJ hh]at hk;cases hk) fun h hh ih hk=> ?_
  rw[zdT hr hh]at hk
  rcases List.mem_cons.1 hk with rfl|hk
  ·exact Nat.le_refl _
  ·have:=ih hk;have:=zdI hr hh;omega
 refine zeZ hr (fun h hh hk=>by rw[zdJ hh]at hk;cases hk) fun h hh ih h1 h2=> ?_
 rw[zdT hr hh]at h1 h2
 have hd:=zdI hr hh
 rcases List.mem_cons.1 h1 with e1|h1
 ·rcases List.mem_cons.1 h2 with e2|h2
  ·rw[e1,e2]
  ·have:=le _ h2;rw[←he,e1]at this;omega
 ·rcases List.mem_cons.1 h2 with e2|h2
  ·have:=le _ h1;rw[he,e2]at this;omega
  ·exact ih h1 h2
def zjN (f:List Node):Nat→Int→List Int
 |0,_=>[]
 |n+1,h=>h::((if(nodeD f h).shadow=0 then[]else zjN f n (nodeD f h).shadow)++(kidsL f h).flatMap (zjN f n))
def zcv (f:List Node) (h:Int):List Int:=zjN f (f.length+1) h
theorem zci {f:List Node} {h:Int} (hr:zaK f) (hs:(nodeD f h).shadow≠0):isN f h∧isN f (nodeD f h).shadow∧nx f (nodeD f h).shadow=h:=by
 have hh:isN f h:=Classical.byContradiction fun hno=>hs (by rw[zeY hno];rfl)
 rcases(zdg hr hh).shadow with h1|⟨h1,h2,h3⟩
 ·exact absurd h1 hs
 ·refine⟨hh,h1,?_⟩
  unfold nx zfW
  rw[if_pos (by simp[h2]),h3]
theorem zdU {f:List Node} (hr:zaK f):∀n h,f.length+2≤n+dA f h→zjN f (n+1) h=zjN f n h
 |0,h,hd=>by have:=ztR f h;omega
 |n+1,h,hd=>by
  show h::((if(nodeD f h).shadow=0 then[]else zjN f (n+1) (nodeD f h).shadow)++(kidsL f h).flatMap (zjN f (n+1)))=h::((if(nodeD f h).shadow=0 then[]else zjN f n (nodeD f h).shadow)++(kidsL f h).flatMap (zjN f n))
  rw[zgW fun k hk=>zdU hr n k (by have:=zru hr hk;omega)]
  by_cases hs:(nodeD f h).shadow=0
  ·rw[if_pos hs,if_pos hs]
  ·obtain⟨h1,h2,h3⟩:=zci hr hs
   have:=zdI hr h2
   rw[h3]at this
   rw[if_neg hs,if_neg hs,zdU hr n _ (by omega)]
theorem zdK {f:List Node} {h:Int} (hr:zaK f) (hh:isN f h):zcv f h=h::((if(nodeD f h).shadow=0 then[]else zcv f (nodeD f h).shadow)++(kidsL f h).flatMap (zcv f)):=by
 show h::((if(nodeD f h).shadow=0 then[]else zjN f f.length (nodeD f h).shadow)++(kidsL f h).flatMap (zjN f f.length))=_
 rw[zgW fun k hk=>(zdU hr f.length k (by have:=zru hr hk;have:=zdI hr hh;omega)).symm]
 by_cases hs:(nodeD f h).shadow=0
 ·rw[if_pos hs,if_pos hs];rfl
 ·obtain⟨h1,h2,h3⟩:=zci hr hs
  have:=zdI hr h2
  have:=zdI hr hh
  rw[h3]at*
  rw[if_neg hs,if_neg hs,←zdU hr f.length _ (by omega)];rfl
theorem ziJ {f:List Node} (hr:zaK f) {x:Int}:∀h,isN f h→x∈zcv f h→h∈upc f x:=by
 refine ziI hr fun h hh ih hx=> ?_
 rw[zdK hr hh]at hx
 rcases List.mem_cons.1 hx with rfl|hx
 ·exact zfA hr hh
 ·rcases List.mem_append.1 hx with hx|hx
  ·by_cases hs:(nodeD f h).shadow=0
   ·rw[if_pos hs]at hx;cases hx
   ·rw[if_neg hs]at hx
    obtain⟨h1,h2,h3⟩:=zci hr hs
    have:=zoi hr (show isN f (nx f (nodeD f h).shadow) by rw[h3];exact hh) _ (ih _ h2 h3 hx)
    rwa [h3]at this
  ·obtain⟨k,hk,hx⟩:=List.mem_flatMap.1 hx
   obtain⟨_,h2,_,h3⟩:=zeI hr hk
   have:=zoi hr (show isN f (nx f k) by rw[h3];exact hh) _ (ih _ h2 h3 hx)
   rwa [h3]at this
theorem below {f:List Node} (hr:zaK f) {h k:Int} (hk:isN f k) (e:nx f k=h) (hh:isN f h):k∈kidsL f h∨((nodeD f h).shadow≠0∧(nodeD f h).shadow=k):=by
 unfold nx zfW at e
 by_cases h12:(nodeD f k).kind=12
 ·rw[if_pos (by simp[h12])]at e
  have:=(zdg hr hk).host h12
  rw[e]at this
  right
  refine⟨?_,this.2.2.1⟩
  rw[this.2.2.1];intro h0;rw[h0]at hk;exact zbe hk
 ·rw[if_neg (by simp[h12])]at e
  exact .inl ((zyf hr hh).2 ⟨hk,e⟩)
theorem ztS {f:List Node} (hr:zaK f) {x k:Int} (hk:isN f k) (e:nx f k=x):∀h,isN f h→x∈zcv f h→k∈zcv f h:=by
 refine ziI hr fun h hh ih hx=> ?_
 rw[zdK hr hh]at hx⊢
 rcases List.mem_cons.1 hx with rfl|hx
 ·refine List.mem_cons_of_mem _ (List.mem_append.2 ?_)
  rcases below hr hk e hh with h1|⟨h1,h2⟩
  ·right
   exact List.mem_flatMap.2 ⟨k,h1,by rw[zdK hr hk];exact List.mem_cons_self⟩
  ·left
   rw[if_neg h1,h2,zdK hr hk];exact List.mem_cons_self
 ·refine List.mem_cons_of_mem _ (List.mem_append.2 ?_)
  rcases List.mem_append.1 hx with hx|hx
  ·left
   by_cases hs:(nodeD f h).shadow=0
   ·rw[if_pos hs]at hx;cases hx
   ·rw[if_neg hs]at hx⊢
    obtain⟨h1,h2,h3⟩:=zci hr hs
    exact ih _ h2 h3 hx
  ·right
   obtain⟨y,hy,hx⟩:=List.mem_flatMap.1 hx
   obtain⟨_,h2,_,h3⟩:=zeI hr hy
   exact List.mem_flatMap.2 ⟨y,hy,ih y h2 h3 hx⟩
theorem zBP {f:List Node} (hr:zaK f) {h:Int}:∀b,h∈upc f b→b∈zcv f h:=by
 refine zeZ hr (fun b hb hk=>by rw[zdJ hb]at hk;cases hk) fun b hb ih hk=> ?_
 have hh:=(zma hr _ hk).1
 rw[zdT hr hb]at hk
 rcases List.mem_cons.1 hk with rfl|hk
 ·rw[zdK hr hh];exact List.mem_cons_self
 ·have hp:isN f (nx f b):=Classical.byContradiction fun hno=>by rw[zdJ hno]at hk;cases hk
  exact ztS hr hb rfl h hh (ih hk)
theorem ziK {f:List Node} (hr:zaK f) {h b:Int} (hh:isN f h):b∈zcv f h↔h∈upc f b:=⟨ziJ hr h hh,zBP hr b⟩
theorem zkO {f:List Node} (hr:zaK f):∀h,isN f h→(zcv f h).Nodup:=by
 have lt:∀{h x k:Int},isN f k→nx f k=h→isN f h→x∈zcv f k→x≠h:=by
  intro h x k hk e hh hx hxe
  subst hxe
  have h1:=ziJ hr k hk hx
  have h2:=zdI hr hk
  have:∀c,k∈upc f c→dA f k≤dA f c:=by
   refine zeZ hr (fun h hh hk=>by rw[zdJ hh]at hk;cases hk) fun h hh ih hk=> ?_
   rw[zdT hr hh]at hk
   rcases List.mem_cons.1 hk with rfl|hk
   ·exact Nat.le_refl _
   ·have:=ih hk;have:=zdI hr hh;omega
  have:=this _ h1
  rw[e]at h2;omega
 have apart:∀{h k k' x:Int},isN f k→isN f k'→nx f k=h→nx f k'=h→x∈zcv f k→x∈zcv f k'→k=k':=by
  intro h k k' x hk hk' e e' hx hx'
  refine zym hr ?_ x (ziJ hr k hk hx) (ziJ hr k' hk' hx')
  rw[zdI hr hk,zdI hr hk',e,e']
 refine ziI hr fun h hh ih=> ?_
 rw[zdK hr hh]
 have hkids:((kidsL f h).flatMap (zcv f)).Nodup:=by
  have:∀l:List Int,l.Nodup→(∀k∈l,k∈kidsL f h)→(l.flatMap (zcv f)).Nodup:=by
   intro l
   induction l with
   |nil=>intro _ _;exact List.nodup_nil
   |cons k l ihl=>
    intro hn hk
    rw[List.flatMap_cons,List.nodup_append]
    rw[List.nodup_cons]at hn
    obtain⟨_,k2,_,k3⟩:=zeI hr (hk k (by simp))
    refine⟨ih k k2 k3,ihl hn.2 fun y hy=>hk y (by simp[hy]),?_⟩
    intro x hx y hy e
    subst e
    obtain⟨z,hz,hx'⟩:=List.mem_flatMap.1 hy
    obtain⟨_,z2,_,z3⟩:=zeI hr (hk z (by simp[hz]))
    have:=apart k2 z2 k3 z3 hx hx'
    subst this
    exact hn.1 hz
  exact this _ (zdg hr hh).nodup fun k hk=>hk
 rw[List.nodup_cons,List.nodup_append]
 refine⟨?_,?_,hkids,?_⟩
 ·intro hm
  rcases List.mem_append.1 hm with hm|hm
  ·by_cases hs:(nodeD f h).shadow=0
   ·rw[if_pos hs]at hm;cases hm
   ·rw[if_neg hs]at hm
    obtain⟨h1,h2,h3⟩:=zci hr hs
    exact lt h2 h3 hh hm rfl
  ·obtain⟨y,hy,hx⟩:=List.mem_flatMap.1 hm
   obtain⟨_,h2,_,h3⟩:=zeI hr hy
   exact lt h2 h3 hh hx rfl
 ·by_cases hs:(nodeD f h).shadow=0
  ·rw[if_pos hs];exact List.nodup_nil
  ·rw[if_neg hs]
   obtain⟨h1,h2,h3⟩:=zci hr hs
   exact ih _ h2 h3
 ·intro x hx y hy e
  subst e
  by_cases hs:(nodeD f h).shadow=0
  ·rw[if_pos hs]at hx;cases hx
  ·rw[if_neg hs]at hx
   obtain⟨h1,h2,h3⟩:=zci hr hs
   obtain⟨z,hz,hx'⟩:=List.mem_flatMap.1 hy
   obtain⟨_,z2,z4,z3⟩:=zeI hr hz
   have:=apart h2 z2 h3 z3 hx hx'
   rw[←this]at z4
   rcases(zdg hr h1).shadow with g|⟨_,g2,_⟩
   ·exact hs g
   ·have:=zrr hr h2 g2
    rw[z4]at this
    rw[this]at hh;exact zbe hh
theorem zBQ {f:List Node} (hr:zaK f) {h:Int} (hh:isN f h):(zcv f h).length≤f.length:=by
 have hsub:zcv f h⊆(List.range f.length).map fun k:Nat=>((k:Int)+1):=by
  intro x hx
  have:=(zma hr _ ((ziK hr hh).1 hx)).2
  unfold isN at this
  rw[List.mem_map]
  exact⟨(x-1).toNat,List.mem_range.2 (by omega),by omega⟩
 have:=(zkO hr h hh).length_le_of_subset hsub
 simpa using this
def zqc (f:List Node) (h:Int):Int:=(upc f h).getLast?.getD 0
theorem zFg {f:List Node} {h:Int} (hr:zaK f) (hh:isN f h) (hp:nx f h=0):zqc f h=h:=by
 unfold zqc
 rw[zdT hr hh,hp,zdJ zbe];rfl
theorem zCI {f:List Node} {h:Int} (hr:zaK f) (hh:isN f h) (hp:nx f h≠0):zqc f h=zqc f (nx f h):=by
 have h1:=(zFf hr h).resolve_left hp
 unfold zqc
 rw[zdT hr hh,zdT hr h1,List.getLast?_cons_cons]
theorem zyn {f:List Node} (hr:zaK f):∀h,isN f h→zqc f h∈upc f h∧nx f (zqc f h)=0∧isN f (zqc f h):=by
 refine zeZ hr (fun h hh hk=>absurd hk hh) fun h hh ih _=> ?_
 by_cases hp:nx f h=0
 ·rw[zFg hr hh hp];exact⟨zfA hr hh,hp,hh⟩
 ·obtain⟨g1,g2,g3⟩:=ih ((zFf hr h).resolve_left hp)
  rw[zCI hr hh hp]
  exact⟨by rw[zdT hr hh];exact List.mem_cons_of_mem _ g1,g2,g3⟩
theorem zrv {f:List Node} (hr:zaK f):∀h,isN f h→(zkM f h).Sublist (zcv f h):=by
 refine zlW hr fun h hh ih=> ?_
 rw[all_in hr hh,zdK hr hh]
 refine List.Sublist.cons_cons _ (List.Sublist.trans ?_ (List.sublist_append_right _ _))
 have:∀l:List Int,(∀k∈l,k∈kidsL f h)→(l.flatMap (zkM f)).Sublist (l.flatMap (zcv f)):=by
  intro l
  induction l with
  |nil=>intro _;exact List.Sublist.refl _
  |cons k l ihl=>intro hk;rw[List.flatMap_cons,List.flatMap_cons];exact(ih k (hk k (by simp))).append (ihl fun y hy=>hk y (by simp[hy]))
 exact this _ fun k hk=>hk
end Go.Proofs.Ythodcjjgimeeoaa.P
