/- Shaken copy of a longer text: what one law needs. Its conditions: none. -/
import Derived.Test.YthodcjjgimeeoaaZFSpFo9
set_option linter.unusedSimpArgs false
set_option linter.unusedVariables false
set_option linter.unusedSimpArgs false
set_option linter.unusedVariables false
set_option linter.unusedSectionVars false
set_option linter.unnecessarySimpa false
namespace Go.Proofs.Ythodcjjgimeeoaa.F
open Go.AI
theorem zFD {f:List Node} (hr:zaU f) (h:Int):nx f h=0∨isN f (nx f h):=by
 by_cases hh:isN f h
 ·have L:=zeS hr hh
  unfold nx zeb
  by_cases hk:(nodeD f h).kind=12
  ·rw[if_pos (by simp[hk])];exact .inr (L.host hk).1
  ·rw[if_neg (by simp[hk])]
   rcases L.par with h1|h1
   ·exact .inl h1
   ·exact .inr h1.1
 ·left;unfold nx;rw[zep hh];rfl
def upP (f:List Node):Nat→Int→List Int
 |0,_=>[]
 |n+1,h=>if isN f h then h::upP f n (nx f h)else[]
def upc (f:List Node) (h:Int):List Int:=upP f (f.length+1) h
theorem zoo {f:List Node} {h:Int} (hh:¬isN f h):∀n,upP f n h=[]
 |0=>rfl
 |n+1=>by unfold upP;rw[if_neg hh]
theorem zjV {f:List Node} (hr:zaU f):∀n h,dA f h≤n→upP f (n+1) h=upP f n h
 |0,h,hd=>by
  by_cases hh:isN f h
  ·have:=zfE hr hh;omega
  ·rw[zoo hh,zoo hh]
 |n+1,h,hd=>by
  show(if isN f h then h::upP f (n+1) (nx f h)else[])=(if isN f h then h::upP f n (nx f h)else[])
  by_cases hh:isN f h
  ·have:=zfE hr hh
   rw[if_pos hh,if_pos hh,zjV hr n _ (by omega)]
  ·rw[if_neg hh,if_neg hh]
theorem zfG {f:List Node} {h:Int} (hh:¬isN f h):upc f h=[]:=zoo hh _
theorem zht {f:List Node} {h:Int} (hr:zaU f) (hh:isN f h):upc f h=h::upc f (nx f h):=by
 show(if isN f h then h::upP f f.length (nx f h)else[])=_
 have h1:=zfE hr hh
 have h2:=zvY f h
 rw[if_pos hh]
 unfold upc
 rw[zjV hr f.length _ (by omega)]
theorem zCj {f:List Node} (hr:zaU f) {k:Int}:∀b,k∈upc f b→isN f k∧isN f b:=by
 refine ziV hr (fun h hh hk=>by rw[zfG hh]at hk;cases hk) fun h hh ih hk=> ?_
 rw[zht hr hh]at hk
 rcases List.mem_cons.1 hk with rfl|hk
 ·exact⟨hh,hh⟩
 ·exact⟨(ih hk).1,hh⟩
theorem zpG {f:List Node} {h:Int} (hr:zaU f) (hh:isN f h):h∈upc f h:=by rw[zht hr hh];exact List.mem_cons_self
theorem zwd {f:List Node} (hr:zaU f) {k:Int} (hp:isN f (nx f k)):∀b,k∈upc f b→nx f k∈upc f b:=by
 refine ziV hr (fun h hh hk=>by rw[zfG hh]at hk;cases hk) fun h hh ih hk=> ?_
 rw[zht hr hh]at hk⊢
 rcases List.mem_cons.1 hk with rfl|hk
 ·exact List.mem_cons_of_mem _ (zpG hr hp)
 ·exact List.mem_cons_of_mem _ (ih hk)
theorem zwe {f:List Node} (hr:zaU f) {a b:Int} (hab:a∈upc f b):∀c,b∈upc f c→a∈upc f c:=by
 refine ziV hr (fun h hh hk=>by rw[zfG hh]at hk;cases hk) fun h hh ih hk=> ?_
 rw[zht hr hh]at hk
 rcases List.mem_cons.1 hk with rfl|hk
 ·exact hab
 ·rw[zht hr hh];exact List.mem_cons_of_mem _ (ih hk)
def ziY (f:List Node):Nat→Int→List Int
 |0,_=>[]
 |n+1,h=>h::((if(nodeD f h).shadow=0 then[]else ziY f n (nodeD f h).shadow)++(kidsL f h).flatMap (ziY f n))
def zjp (f:List Node) (h:Int):List Int:=ziY f (f.length+1) h
theorem zgq {f:List Node} {h:Int} (hr:zaU f) (hs:(nodeD f h).shadow≠0):isN f h∧isN f (nodeD f h).shadow∧nx f (nodeD f h).shadow=h:=by
 have hh:isN f h:=Classical.byContradiction fun hno=>hs (by rw[zep hno];rfl)
 rcases(zeS hr hh).shadow with h1|⟨h1,h2,h3⟩
 ·exact absurd h1 hs
 ·refine⟨hh,h1,?_⟩
  unfold nx zeb
  rw[if_pos (by simp[h2]),h3]
theorem zdr {f:List Node} (hr:zaU f):∀n h,f.length+2≤n+dA f h→ziY f (n+1) h=ziY f n h
 |0,h,hd=>by have:=zvY f h;omega
 |n+1,h,hd=>by
  show h::((if(nodeD f h).shadow=0 then[]else ziY f (n+1) (nodeD f h).shadow)++(kidsL f h).flatMap (ziY f (n+1)))=h::((if(nodeD f h).shadow=0 then[]else ziY f n (nodeD f h).shadow)++(kidsL f h).flatMap (ziY f n))
  rw[zgp fun k hk=>zdr hr n k (by have:=zpF hr hk;omega)]
  by_cases hs:(nodeD f h).shadow=0
  ·rw[if_pos hs,if_pos hs]
  ·obtain⟨h1,h2,h3⟩:=zgq hr hs
   have:=zfE hr h2
   rw[h3]at this
   rw[if_neg hs,if_neg hs,zdr hr n _ (by omega)]
theorem zhd {f:List Node} {h:Int} (hr:zaU f) (hh:isN f h):zjp f h=h::((if(nodeD f h).shadow=0 then[]else zjp f (nodeD f h).shadow)++(kidsL f h).flatMap (zjp f)):=by
 show h::((if(nodeD f h).shadow=0 then[]else ziY f f.length (nodeD f h).shadow)++(kidsL f h).flatMap (ziY f f.length))=_
 rw[zgp fun k hk=>(zdr hr f.length k (by have:=zpF hr hk;have:=zfE hr hh;omega)).symm]
 by_cases hs:(nodeD f h).shadow=0
 ·rw[if_pos hs,if_pos hs];rfl
 ·obtain⟨h1,h2,h3⟩:=zgq hr hs
  have:=zfE hr h2
  have:=zfE hr hh
  rw[h3]at*
  rw[if_neg hs,if_neg hs,←zdr hr f.length _ (by omega)];rfl
theorem zzt {f:List Node} (hr:zaU f) {x:Int}:∀h,isN f h→x∈zjp f h→h∈upc f x:=by
 refine zkX hr fun h hh ih hx=> ?_
 rw[zhd hr hh]at hx
 rcases List.mem_cons.1 hx with rfl|hx
 ·exact zpG hr hh
 ·rcases List.mem_append.1 hx with hx|hx
  ·by_cases hs:(nodeD f h).shadow=0
   ·rw[if_pos hs]at hx;cases hx
   ·rw[if_neg hs]at hx
    obtain⟨h1,h2,h3⟩:=zgq hr hs
    have:=zwd hr (show isN f (nx f (nodeD f h).shadow) by rw[h3];exact hh) _ (ih _ h2 h3 hx)
    rwa [h3]at this
  ·obtain⟨k,hk,hx⟩:=List.mem_flatMap.1 hx
   obtain⟨_,h2,_,h3⟩:=ziU hr hk
   have:=zwd hr (show isN f (nx f k) by rw[h3];exact hh) _ (ih _ h2 h3 hx)
   rwa [h3]at this
theorem below {f:List Node} (hr:zaU f) {h k:Int} (hk:isN f k) (e:nx f k=h) (hh:isN f h):k∈kidsL f h∨((nodeD f h).shadow≠0∧(nodeD f h).shadow=k):=by
 unfold nx zeb at e
 by_cases h12:(nodeD f k).kind=12
 ·rw[if_pos (by simp[h12])]at e
  have:=(zeS hr hk).host h12
  rw[e]at this
  right
  refine⟨?_,this.2.2.1⟩
  rw[this.2.2.1];intro h0;rw[h0]at hk;exact zcw hk
 ·rw[if_neg (by simp[h12])]at e
  exact .inl ((zvX hr hh).2 ⟨hk,e⟩)
theorem zrN {f:List Node} (hr:zaU f) {x k:Int} (hk:isN f k) (e:nx f k=x):∀h,isN f h→x∈zjp f h→k∈zjp f h:=by
 refine zkX hr fun h hh ih hx=> ?_
 rw[zhd hr hh]at hx⊢
 rcases List.mem_cons.1 hx with rfl|hx
 ·refine List.mem_cons_of_mem _ (List.mem_append.2 ?_)
  rcases below hr hk e hh with h1|⟨h1,h2⟩
  ·right
   exact List.mem_flatMap.2 ⟨k,h1,by rw[zhd hr hk];exact List.mem_cons_self⟩
  ·left
   rw[if_neg h1,h2,zhd hr hk];exact List.mem_cons_self
 ·refine List.mem_cons_of_mem _ (List.mem_append.2 ?_)
  rcases List.mem_append.1 hx with hx|hx
  ·left
   by_cases hs:(nodeD f h).shadow=0
   ·rw[if_pos hs]at hx;cases hx
   ·rw[if_neg hs]at hx⊢
    obtain⟨h1,h2,h3⟩:=zgq hr hs
    exact ih _ h2 h3 hx
  ·right
   obtain⟨y,hy,hx⟩:=List.mem_flatMap.1 hx
   obtain⟨_,h2,_,h3⟩:=ziU hr hy
   exact List.mem_flatMap.2 ⟨y,hy,ih y h2 h3 hx⟩
theorem zzu {f:List Node} (hr:zaU f) {h:Int}:∀b,h∈upc f b→b∈zjp f h:=by
 refine ziV hr (fun b hb hk=>by rw[zfG hb]at hk;cases hk) fun b hb ih hk=> ?_
 have hh:=(zCj hr _ hk).1
 rw[zht hr hb]at hk
 rcases List.mem_cons.1 hk with rfl|hk
 ·rw[zhd hr hh];exact List.mem_cons_self
 ·have hp:isN f (nx f b):=Classical.byContradiction fun hno=>by rw[zfG hno]at hk;cases hk
  exact zrN hr hb rfl h hh (ih hk)
theorem zzv {f:List Node} (hr:zaU f) {h b:Int} (hh:isN f h):b∈zjp f h↔h∈upc f b:=⟨zzt hr h hh,zzu hr b⟩
theorem zzw {f:List Node} (hr:zaU f):∀h,isN f h→(zzr f h).Sublist (zjp f h):=by
 refine zon hr fun h hh ih=> ?_
 rw[all_in hr hh,zhd hr hh]
 refine List.Sublist.cons_cons _ (List.Sublist.trans ?_ (List.sublist_append_right _ _))
 have:∀l:List Int,(∀k∈l,k∈kidsL f h)→(l.flatMap (zzr f)).Sublist (l.flatMap (zjp f)):=by
  intro l
  induction l with
  |nil=>intro _;exact List.Sublist.refl _
  |cons k l ihl=>intro hk;rw[List.flatMap_cons,List.flatMap_cons];exact(ih k (hk k (by simp))).append (ihl fun y hy=>hk y (by simp[hy]))
 exact this _ fun k hk=>hk
end Go.Proofs.Ythodcjjgimeeoaa.F
