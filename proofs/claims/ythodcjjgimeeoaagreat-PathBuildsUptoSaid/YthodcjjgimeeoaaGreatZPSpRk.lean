/- Shaken copy of a longer text: what one law needs. Its conditions: none. -/
import Derived.Test.YthodcjjgimeeoaaGreatZPSpDp
set_option linter.unusedSimpArgs false
set_option linter.unusedVariables false
set_option linter.unusedSimpArgs false
set_option linter.unusedVariables false
set_option linter.unusedSectionVars false
set_option linter.unnecessarySimpa false
namespace Go.Proofs.YthodcjjgimeeoaaGreat.P
open Go.AI
theorem zLn {g:Int→List Int} {l:List Int} {k:Int} (hk:k∈l):(g k).Sublist (l.flatMap g):=by
 obtain⟨s,t,rfl⟩:=List.append_of_mem hk
 rw[List.flatMap_append,List.flatMap_cons]
 exact(List.sublist_append_left _ _).trans (List.sublist_append_right _ _)
theorem zpF {f:List Node} (hr:zaJ f) {x:Int} (hx:isN f x) (hp:isN f (nx f x)):(zcF f x).Sublist ((if(nodeD f (nx f x)).shadow=0 then[]else zcF f (nodeD f (nx f x)).shadow)++(kidsL f (nx f x)).flatMap (zcF f)):=by
 rcases below hr hx rfl hp with h1|⟨h1,h2⟩
 ·exact(zLn h1).trans (List.sublist_append_right _ _)
 ·rw[if_neg h1,h2];exact List.sublist_append_left _ _
theorem zEn {f:List Node} (hr:zaJ f) {t:Int}:∀x,t∈upc f x→(zcF f x).Sublist (zcF f t):=by
 refine zfo hr (fun h hh hk=>by rw[zdi hh]at hk;cases hk) fun h hh ih hk=> ?_
 rw[zdZ hr hh]at hk
 rcases List.mem_cons.1 hk with rfl|hk
 ·exact List.Sublist.refl _
 ·have hp:isN f (nx f h):=(zns hr _ hk).2
  refine List.Sublist.trans ?_ (ih hk)
  rw[zea hr hp]
  exact List.Sublist.cons _ (zpF hr hh hp)
theorem zAq {f:List Node} (hr:zaJ f) {t:Int}:∀x,t∈upc f x→zrA f x=zrA f t:=by
 refine zfo hr (fun h hh hk=>by rw[zdi hh]at hk;cases hk) fun h hh ih hk=> ?_
 rw[zdZ hr hh]at hk
 rcases List.mem_cons.1 hk with rfl|hk
 ·rfl
 ·have hp:isN f (nx f h):=(zns hr _ hk).2
  rw[zFm hr hh (fun e=>zbr (e▸hp)),ih hk]
def rk (f:List Node) (x:Int):Nat:=(idx (zcF f (zrA f x)) x).toNat
theorem zEo {L:List Int} (hn:L.Nodup) {a b:Int} (h:[a,b].Sublist L):idx L a<idx L b:=by
 have hp:L.Pairwise (fun x y=>idx L x<idx L y):=by
  rw[List.pairwise_iff_getElem]
  intro i j hi hj hij
  rw[zAi hn hi,zAi hn hj];omega
 have:=hp.sublist h
 simpa using this
theorem zLo {f:List Node} (hr:zaJ f) {a b t:Int} (ht:isN f t) (ha:t∈upc f a) (hb:t∈upc f b) (h:[a,b].Sublist (zcF f t)):rk f a<rk f b:=by
 have e1:=zAq hr a ha
 have e2:=zAq hr b hb
 obtain⟨g1,g2,g3⟩:=zAp hr t ht
 have hs:=h.trans (zEn hr t g1)
 have h1:=zEo (zmb hr _ g3) hs
 have h0:0≤idx (zcF f (zrA f t)) a:=ziL.2 (hs.subset (by simp))
 unfold rk
 rw[e1,e2];omega
theorem zAr {f:List Node} (hr:zaJ f) {x:Int} (hx:isN f x):rk f x<f.length:=by
 obtain⟨g1,g2,g3⟩:=zAp hr x hx
 have h1:=zEl hr g3
 have h2:idx (zcF f (zrA f x)) x<(zcF f (zrA f x)).length:=zLl
 have h3:0≤idx (zcF f (zrA f x)) x:=ziL.2 ((znt hr g3).2 g1)
 unfold rk
 omega
theorem zpG {f:List Node} (hr:zaJ f) {x:Int} (hx:isN f x):x∈zcF f x:=by rw[zea hr hx];exact List.mem_cons_self
theorem zLp {f:List Node} (hr:zaJ f) {x:Int} (hx:isN f x) (hp:isN f (nx f x)):rk f (nx f x)<rk f x:=by
 refine zLo hr hp (zgq hr hp) (zpE hr hp x (zgq hr hx)) ?_
 have hm:=(zpF hr hx hp).subset (zpG hr hx)
 rw[zea hr hp]
 exact List.Sublist.cons_cons _ (List.singleton_sublist.2 hm)
theorem zHV {f:List Node} (hr:zaJ f) {p x s:Int} (hx:x∈kidsL f p) (h0:(nodeD f p).shadow≠0) (hs:s∈zdw f (nodeD f p).shadow):rk f s<rk f x:=by
 obtain⟨hp,hS,he⟩:=zci hr h0
 obtain⟨_,hxN,_,hxe⟩:=zcO hr hx
 have hsd:=(zEm hr _ hS).subset hs
 have hsu:=(znt hr hS).1 hsd
 refine zLo hr hp (he▸zpE hr (he.symm▸hp) s hsu) (hxe▸zpE hr (hxe.symm▸hp) x (zgq hr hxN)) ?_
 rw[zea hr hp,if_neg h0]
 refine List.Sublist.cons _ ?_
 exact(List.singleton_sublist.2 hsd).append (List.singleton_sublist.2 (List.mem_flatMap.2 ⟨x,hx,zpG hr hxN⟩))
end Go.Proofs.YthodcjjgimeeoaaGreat.P
