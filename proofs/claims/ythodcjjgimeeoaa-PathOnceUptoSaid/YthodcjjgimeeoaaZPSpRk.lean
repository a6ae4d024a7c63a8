/- Shaken copy of a longer text: what one law needs. Its conditions: none. -/
import Derived.Test.YthodcjjgimeeoaaZPSpDp
set_option linter.unusedSimpArgs false
set_option linter.unusedVariables false
set_option linter.unusedSimpArgs false
set_option linter.unusedVariables false
set_option linter.unusedSectionVars false
set_option linter.unnecessarySimpa false
namespace Go.Proofs.Ythodcjjgimeeoaa.P
open Go.AI
theorem zIi {g:Int→List Int} {l:List Int} {k:Int} (hk:k∈l):(g k).Sublist (l.flatMap g):=by
 obtain⟨s,t,rfl⟩:=List.append_of_mem hk
 rw[List.flatMap_append,List.flatMap_cons]
 exact(List.sublist_append_left _ _).trans (List.sublist_append_right _ _)
theorem zoj {f:List Node} (hr:zaK f) {x:Int} (hx:isN f x) (hp:isN f (nx f x)):(zcv f x).Sublist ((if(nodeD f (nx f x)).shadow=0 then[]else zcv f (nodeD f (nx f x)).shadow)++(kidsL f (nx f x)).flatMap (zcv f)):=by
 rcases below hr hx rfl hp with h1|⟨h1,h2⟩
 ·exact(zIi h1).trans (List.sublist_append_right _ _)
 ·rw[if_neg h1,h2];exact List.sublist_append_left _ _
theorem zBR {f:List Node} (hr:zaK f) {t:Int}:∀x,t∈upc f x→(zcv f x).Sublist (zcv f t):=by
 refine zeZ hr (fun h hh hk=>by rw[zdJ hh]at hk;cases hk) fun h hh ih hk=> ?_
 rw[zdT hr hh]at hk
 rcases List.mem_cons.1 hk with rfl|hk
 ·exact List.Sublist.refl _
 ·have hp:isN f (nx f h):=(zma hr _ hk).2
  refine List.Sublist.trans ?_ (ih hk)
  rw[zdK hr hp]
  exact List.Sublist.cons _ (zoj hr hh hp)
theorem zyo {f:List Node} (hr:zaK f) {t:Int}:∀x,t∈upc f x→zqc f x=zqc f t:=by
 refine zeZ hr (fun h hh hk=>by rw[zdJ hh]at hk;cases hk) fun h hh ih hk=> ?_
 rw[zdT hr hh]at hk
 rcases List.mem_cons.1 hk with rfl|hk
 ·rfl
 ·have hp:isN f (nx f h):=(zma hr _ hk).2
  rw[zCI hr hh (fun e=>zbe (e▸hp)),ih hk]
def rk (f:List Node) (x:Int):Nat:=(idx (zcv f (zqc f x)) x).toNat
theorem zBS {L:List Int} (hn:L.Nodup) {a b:Int} (h:[a,b].Sublist L):idx L a<idx L b:=by
 have hp:L.Pairwise (fun x y=>idx L x<idx L y):=by
  rw[List.pairwise_iff_getElem]
  intro i j hi hj hij
  rw[zCH hn hi,zCH hn hj];omega
 have:=hp.sublist h
 simpa using this
theorem zIj {f:List Node} (hr:zaK f) {a b t:Int} (ht:isN f t) (ha:t∈upc f a) (hb:t∈upc f b) (h:[a,b].Sublist (zcv f t)):rk f a<rk f b:=by
 have e1:=zyo hr a ha
 have e2:=zyo hr b hb
 obtain⟨g1,g2,g3⟩:=zyn hr t ht
 have hs:=h.trans (zBR hr t g1)
 have h1:=zBS (zkO hr _ g3) hs
 have h0:0≤idx (zcv f (zqc f t)) a:=zlZ.2 (hs.subset (by simp))
 unfold rk
 rw[e1,e2];omega
theorem zCJ {f:List Node} (hr:zaK f) {x:Int} (hx:isN f x):rk f x<f.length:=by
 obtain⟨g1,g2,g3⟩:=zyn hr x hx
 have h1:=zBQ hr g3
 have h2:idx (zcv f (zqc f x)) x<(zcv f (zqc f x)).length:=zIg
 have h3:0≤idx (zcv f (zqc f x)) x:=zlZ.2 ((ziK hr g3).2 g1)
 unfold rk
 omega
theorem zok {f:List Node} (hr:zaK f) {x:Int} (hx:isN f x):x∈zcv f x:=by rw[zdK hr hx];exact List.mem_cons_self
theorem zIk {f:List Node} (hr:zaK f) {x:Int} (hx:isN f x) (hp:isN f (nx f x)):rk f (nx f x)<rk f x:=by
 refine zIj hr hp (zfA hr hp) (zoi hr hp x (zfA hr hx)) ?_
 have hm:=(zoj hr hx hp).subset (zok hr hx)
 rw[zdK hr hp]
 exact List.Sublist.cons_cons _ (List.singleton_sublist.2 hm)
theorem zFh {f:List Node} (hr:zaK f) {p x s:Int} (hx:x∈kidsL f p) (h0:(nodeD f p).shadow≠0) (hs:s∈zkM f (nodeD f p).shadow):rk f s<rk f x:=by
 obtain⟨hp,hS,he⟩:=zci hr h0
 obtain⟨_,hxN,_,hxe⟩:=zeI hr hx
 have hsd:=(zrv hr _ hS).subset hs
 have hsu:=(ziK hr hS).1 hsd
 refine zIj hr hp (he▸zoi hr (he.symm▸hp) s hsu) (hxe▸zoi hr (hxe.symm▸hp) x (zfA hr hxN)) ?_
 rw[zdK hr hp,if_neg h0]
 refine List.Sublist.cons _ ?_
 exact(List.singleton_sublist.2 hsd).append (List.singleton_sublist.2 (List.mem_flatMap.2 ⟨x,hx,zok hr hxN⟩))
end Go.Proofs.Ythodcjjgimeeoaa.P
