/- Shaken copy of a longer text: what one law needs. Its conditions: none. -/
import Derived.Test.YtfleilibjdgcjaaYVSpFo9
set_option linter.unusedSimpArgs false
set_option linter.unusedVariables false
set_option linter.unusedSimpArgs false
set_option linter.unusedVariables false
set_option linter.unusedSectionVars false
set_option linter.unnecessarySimpa false
namespace Go.Proofs.Ytfleilibjdgcjaa.V
open Go.AI
theorem zHp {f:List Node} (hr:zbK f) (h:Int):nx f h=0∨isN f (nx f h):=by
 by_cases hh:isN f h
 ·have L:=zdJ hr hh
  unfold nx zeO
  by_cases hk:(nodeD f h).kind=12
  ·rw[if_pos (by simp[hk])];exact .inr (L.host hk).1
  ·rw[if_neg (by simp[hk])]
   rcases L.par with h1|h1
   ·exact .inl h1
   ·exact .inr h1.1
 ·left;unfold nx;rw[zeQ hh];rfl
def upP (f:List Node):Nat→Int→List Int
 |0,_=>[]
 |n+1,h=>if isN f h then h::upP f n (nx f h)else[]
def upc (f:List Node) (h:Int):List Int:=upP f (f.length+1) h
theorem zpF {f:List Node} {h:Int} (hh:¬isN f h):∀n,upP f n h=[]
 |0=>rfl
 |n+1=>by unfold upP;rw[if_neg hh]
theorem zkU {f:List Node} (hr:zbK f):∀n h,dA f h≤n→upP f (n+1) h=upP f n h
 |0,h,hd=>by
  by_cases hh:isN f h
  ·have:=zfO hr hh;omega
  ·rw[zpF hh,zpF hh]
 |n+1,h,hd=>by
  show(if isN f h then h::upP f (n+1) (nx f h)else[])=(if isN f h then h::upP f n (nx f h)else[])
  by_cases hh:isN f h
  ·have:=zfO hr hh
   rw[if_pos hh,if_pos hh,zkU hr n _ (by omega)]
  ·rw[if_neg hh,if_neg hh]
theorem zez {f:List Node} {h:Int} (hh:¬isN f h):upc f h=[]:=zpF hh _
theorem zhc {f:List Node} {h:Int} (hr:zbK f) (hh:isN f h):upc f h=h::upc f (nx f h):=by
 show(if isN f h then h::upP f f.length (nx f h)else[])=_
 have h1:=zfO hr hh
 have h2:=zEa f h
 rw[if_pos hh]
 unfold upc
 rw[zkU hr f.length _ (by omega)]
theorem zxs {f:List Node} (hr:zbK f) {k:Int}:∀b,k∈upc f b→isN f k∧isN f b:=by
 refine zil hr (fun h hh hk=>by rw[zez hh]at hk;cases hk) fun h hh ih hk=> ?_
 rw[zhc hr hh]at hk
 rcases List.mem_cons.1 hk with rfl|hk
 ·exact⟨hh,hh⟩
 ·exact⟨(ih hk).1,hh⟩
theorem zme {f:List Node} {h:Int} (hr:zbK f) (hh:isN f h):h∈upc f h:=by rw[zhc hr hh];exact List.mem_cons_self
theorem zBq {f:List Node} (hr:zbK f) {k:Int} (hp:isN f (nx f k)):∀b,k∈upc f b→nx f k∈upc f b:=by
 refine zil hr (fun h hh hk=>by rw[zez hh]at hk;cases hk) fun h hh ih hk=> ?_
 rw[zhc hr hh]at hk⊢
 rcases List.mem_cons.1 hk with rfl|hk
 ·exact List.mem_cons_of_mem _ (zme hr hp)
 ·exact List.mem_cons_of_mem _ (ih hk)
theorem zxt {f:List Node} (hr:zbK f) {a b:Int} (he:dA f a=dA f b):∀c,a∈upc f c→b∈upc f c→a=b:=by
 have le:∀{k:Int} (c:Int),k∈upc f c→dA f k≤dA f c:=by
  intro k
  refine zil hr (fun h hh hk=>by rw[zez hh]at hk;cases hk) fun h hh ih hk=> ?_
  rw[zhc hr hh]at hk
  rcases List.mem_cons.1 hk with rfl|hk
  ·exact Nat.le_refl _
  ·have:=ih hk;have:=zfO hr hh;omega
 refine zil hr (fun h hh hk=>by rw[zez hh]at hk;cases hk) fun h hh ih h1 h2=> ?_
 rw[zhc hr hh]at h1 h2
 have hd:=zfO hr hh
 rcases List.mem_cons.1 h1 with e1|h1
 ·rcases List.mem_cons.1 h2 with e2|h2
  ·rw[e1,e2]
  ·have:=le _ h2;rw[←he,e1]at this;omega
 ·rcases List.mem_cons.1 h2 with e2|h2
  ·have:=le _ h1;rw[he,e2]at this;omega
  ·exact ih h1 h2
def zjX (f:List Node):Nat→Int→List Int
 |0,_=>[]
 |n+1,h=>h::((if(nodeD f h).shadow=0 then[]else zjX f n (nodeD f h).shadow)++(kidsL f h).flatMap (zjX f n))
def zck (f:List Node) (h:Int):List Int:=zjX f (f.length+1) h
theorem zcJ {f:List Node} {h:Int} (hr:zbK f) (hs:(nodeD f h).shadow≠0):isN f h∧isN f (nodeD f h).shadow∧nx f (nodeD f h).shadow=h:=by
 have hh:isN f h:=Classical.byContradiction fun hno=>hs (by rw[zeQ hno];rfl)
 rcases(zdJ hr hh).shadow with h1|⟨h1,h2,h3⟩
 ·exact absurd h1 hs
 ·refine⟨hh,h1,?_⟩
  unfold nx zeO
  rw[if_pos (by simp[h2]),h3]
theorem zdK {f:List Node} (hr:zbK f):∀n h,f.length+2≤n+dA f h→zjX f (n+1) h=zjX f n h
 |0,h,hd=>by have:=zEa f h;omega
 |n+1,h,hd=>by
  show h::((if(nodeD f h).shadow=0 then[]else zjX f (n+1) (nodeD f h).shadow)++(kidsL f h).flatMap (zjX f (n+1)))=h::((if(nodeD f h).shadow=0 then[]else zjX f n (nodeD f h).shadow)++(kidsL f h).flatMap (zjX f n))
  rw[zmd fun k hk=>zdK hr n k (by have:=zBp hr hk;omega)]
  by_cases hs:(nodeD f h).shadow=0
  ·rw[if_pos hs,if_pos hs]
  ·obtain⟨h1,h2,h3⟩:=zcJ hr hs
   have:=zfO hr h2
   rw[h3]at this
   rw[if_neg hs,if_neg hs,zdK hr n _ (by omega)]
theorem zdz {f:List Node} {h:Int} (hr:zbK f) (hh:isN f h):zck f h=h::((if(nodeD f h).shadow=0 then[]else zck f (nodeD f h).shadow)++(kidsL f h).flatMap (zck f)):=by
 show h::((if(nodeD f h).shadow=0 then[]else zjX f f.length (nodeD f h).shadow)++(kidsL f h).flatMap (zjX f f.length))=_
 rw[zmd fun k hk=>(zdK hr f.length k (by have:=zBp hr hk;have:=zfO hr hh;omega)).symm]
 by_cases hs:(nodeD f h).shadow=0
 ·rw[if_pos hs,if_pos hs];rfl
 ·obtain⟨h1,h2,h3⟩:=zcJ hr hs
  have:=zfO hr h2
  have:=zfO hr hh
  rw[h3]at*
  rw[if_neg hs,if_neg hs,←zdK hr f.length _ (by omega)];rfl
theorem ziS {f:List Node} (hr:zbK f) {x:Int}:∀h,isN f h→x∈zck f h→h∈upc f x:=by
 refine ziR hr fun h hh ih hx=> ?_
 rw[zdz hr hh]at hx
 rcases List.mem_cons.1 hx with rfl|hx
 ·exact zme hr hh
 ·rcases List.mem_append.1 hx with hx|hx
  ·by_cases hs:(nodeD f h).shadow=0
   ·rw[if_pos hs]at hx;cases hx
   ·rw[if_neg hs]at hx
    obtain⟨h1,h2,h3⟩:=zcJ hr hs
    have:=zBq hr (show isN f (nx f (nodeD f h).shadow) by rw[h3];exact hh) _ (ih _ h2 h3 hx)
    rwa [h3]at this
  ·obtain⟨k,hk,hx⟩:=List.mem_flatMap.1 hx
   obtain⟨_,h2,_,h3⟩:=zcy hr hk
   have:=zBq hr (show isN f (nx f k) by rw[h3];exact hh) _ (ih _ h2 h3 hx)
   rwa [h3]at this
theorem below {f:List Node} (hr:zbK f) {h k:Int} (hk:isN f k) (e:nx f k=h) (hh:isN f h):k∈kidsL f h∨((nodeD f h).shadow≠0∧(nodeD f h).shadow=k):=by
 unfold nx zeO at e
 by_cases h12:(nodeD f k).kind=12
 ·rw[if_pos (by simp[h12])]at e
  have:=(zdJ hr hk).host h12
  rw[e]at this
  right
  refine⟨?_,this.2.2.1⟩
  rw[this.2.2.1];intro h0;rw[h0]at hk;exact zcv hk
 ·rw[if_neg (by simp[h12])]at e
  exact .inl ((zmc hr hh).2 ⟨hk,e⟩)
theorem zta {f:List Node} (hr:zbK f) {x k:Int} (hk:isN f k) (e:nx f k=x):∀h,isN f h→x∈zck f h→k∈zck f h:=by
 refine ziR hr fun h hh ih hx=> ?_
 rw[zdz hr hh]at hx⊢
 rcases List.mem_cons.1 hx with rfl|hx
 ·refine List.mem_cons_of_mem _ (List.mem_append.2 ?_)
  rcases below hr hk e hh with h1|⟨h1,h2⟩
  ·right
   exact List.mem_flatMap.2 ⟨k,h1,by rw[zdz hr hk];exact List.mem_cons_self⟩
  ·left
   rw[if_neg h1,h2,zdz hr hk];exact List.mem_cons_self
 ·refine List.mem_cons_of_mem _ (List.mem_append.2 ?_)
  rcases List.mem_append.1 hx with hx|hx
  ·left
   by_cases hs:(nodeD f h).shadow=0
   ·rw[if_pos hs]at hx;cases hx
   ·rw[if_neg hs]at hx⊢
    obtain⟨h1,h2,h3⟩:=zcJ hr hs
    exact ih _ h2 h3 hx
  ·right
   obtain⟨y,hy,hx⟩:=List.mem_flatMap.1 hx
   obtain⟨_,h2,_,h3⟩:=zcy hr hy
   exact List.mem_flatMap.2 ⟨y,hy,ih y h2 h3 hx⟩
theorem zAP {f:List Node} (hr:zbK f) {h:Int}:∀b,h∈upc f b→b∈zck f h:=by
 refine zil hr (fun b hb hk=>by rw[zez hb]at hk;cases hk) fun b hb ih hk=> ?_
 have hh:=(zxs hr _ hk).1
 rw[zhc hr hb]at hk
 rcases List.mem_cons.1 hk with rfl|hk
 ·rw[zdz hr hh];exact List.mem_cons_self
 ·have hp:isN f (nx f b):=Classical.byContradiction fun hno=>by rw[zez hno]at hk;cases hk
  exact zta hr hb rfl h hh (ih hk)
theorem zmf {f:List Node} (hr:zbK f) {h b:Int} (hh:isN f h):b∈zck f h↔h∈upc f b:=⟨ziS hr h hh,zAP hr b⟩
theorem ztb {f:List Node} (hr:zbK f):∀h,isN f h→(zck f h).Nodup:=by
 have lt:∀{h x k:Int},isN f k→nx f k=h→isN f h→x∈zck f k→x≠h:=by
  intro h x k hk e hh hx hxe
  subst hxe
  have h1:=ziS hr k hk hx
  have h2:=zfO hr hk
  have:∀c,k∈upc f c→dA f k≤dA f c:=by
   refine zil hr (fun h hh hk=>by rw[zez hh]at hk;cases hk) fun h hh ih hk=> ?_
   rw[zhc hr hh]at hk
   rcases List.mem_cons.1 hk with rfl|hk
   ·exact Nat.le_refl _
   ·have:=ih hk;have:=zfO hr hh;omega
  have:=this _ h1
  rw[e]at h2;omega
 have apart:∀{h k k' x:Int},isN f k→isN f k'→nx f k=h→nx f k'=h→x∈zck f k→x∈zck f k'→k=k':=by
  intro h k k' x hk hk' e e' hx hx'
  refine zxt hr ?_ x (ziS hr k hk hx) (ziS hr k' hk' hx')
  rw[zfO hr hk,zfO hr hk',e,e']
 refine ziR hr fun h hh ih=> ?_
 rw[zdz hr hh]
 have hkids:((kidsL f h).flatMap (zck f)).Nodup:=by
  have:∀l:List Int,l.Nodup→(∀k∈l,k∈kidsL f h)→(l.flatMap (zck f)).Nodup:=by
   intro l
   induction l with
   |nil=>intro _ _;exact List.nodup_nil
   |cons k l ihl=>
    intro hn hk
    rw[List.flatMap_cons,List.nodup_append]
    rw[List.nodup_cons]at hn
    obtain⟨_,k2,_,k3⟩:=zcy hr (hk k (by simp))
    refine⟨ih k k2 k3,ihl hn.2 fun y hy=>hk y (by simp[hy]),?_⟩
    intro x hx y hy e
    subst e
    obtain⟨z,hz,hx'⟩:=List.mem_flatMap.1 hy
    obtain⟨_,z2,_,z3⟩:=zcy hr (hk z (by simp[hz]))
    have:=apart k2 z2 k3 z3 hx hx'
    subst this
    exact hn.1 hz
  exact this _ (zdJ hr hh).nodup fun k hk=>hk
 rw[List.nodup_cons,List.nodup_append]
 refine⟨?_,?_,hkids,?_⟩
 ·intro hm
  rcases List.mem_append.1 hm with hm|hm
  ·by_cases hs:(nodeD f h).shadow=0
   ·rw[if_pos hs]at hm;cases hm
   ·rw[if_neg hs]at hm
    obtain⟨h1,h2,h3⟩:=zcJ hr hs
    exact lt h2 h3 hh hm rfl
  ·obtain⟨y,hy,hx⟩:=List.mem_flatMap.1 hm
   obtain⟨_,h2,_,h3⟩:=zcy hr hy
   exact lt h2 h3 hh hx rfl
 ·by_cases hs:(nodeD f h).shadow=0
  ·rw[if_pos hs];exact List.nodup_nil
  ·rw[if_neg hs]
   obtain⟨h1,h2,h3⟩:=zcJ hr hs
   exact ih _ h2 h3
 ·intro x hx y hy e
  subst e
  by_cases hs:(nodeD f h).shadow=0
  ·rw[if_pos hs]at hx;cases hx
  ·rw[if_neg hs]at hx
   obtain⟨h1,h2,h3⟩:=zcJ hr hs
   obtain⟨z,hz,hx'⟩:=List.mem_flatMap.1 hy
   obtain⟨_,z2,z4,z3⟩:=zcy hr hz
   have:=apart h2 z2 h3 z3 hx hx'
   rw[←this]at z4
   rcases(zdJ hr h1).shadow with g|⟨_,g2,_⟩
   ·exact hs g
   ·have:=zqT hr h2 g2
    rw[z4]at this
    rw[this]at hh;exact zcv hh
theorem zmg {f:List Node} (hr:zbK f) {h:Int} (hh:isN f h):(zck f h).length≤f.length:=by
 have hsub:zck f h⊆(List.range f.length).map fun k:Nat=>((k:Int)+1):=by
  intro x hx
  have:=(zxs hr _ ((zmf hr hh).1 hx)).2
  unfold isN at this
  rw[List.mem_map]
  exact⟨(x-1).toNat,List.mem_range.2 (by omega),by omega⟩
 have:=(ztb hr h hh).length_le_of_subset hsub
 simpa using this
end Go.Proofs.Ytfleilibjdgcjaa.V
