/- Shaken copy of a longer text: what one law needs. Its conditions: none. -/
import Derived.Test.YthodcjjgimeeoaaGreatZPSpFo6
set_option linter.unusedSimpArgs false
set_option linter.unusedVariables false
set_option linter.unusedSimpArgs false
set_option linter.unusedVariables false
set_option linter.unusedSectionVars false
set_option linter.unnecessarySimpa false
namespace Go.Proofs.YthodcjjgimeeoaaGreat.P
open Go.AI
def par (f:List Node) (h:Int):Int:=(nodeD f h).parent
def kidsL (f:List Node) (h:Int):List Int:=(nodeD f h).kids.l
theorem zfG {f:List Node} {h:Int} (hh:¬isN f h):nodeD f h=nd0:=by
 unfold nodeD
 rcases e:zcj f h with _|n
 ·rfl
 ·have:=zcx e;exact absurd ⟨this.1,this.2.1⟩ hh
theorem zHN {f:List Node} {h:Int} (hh:¬isN f h):par f h=0:=by unfold par;rw[zfG hh];rfl
theorem zEg {f:List Node} {h:Int} (hh:¬isN f h):kidsL f h=[]:=by unfold kidsL;rw[zfG hh];rfl
theorem zbr {f:List Node}:¬isN f 0:=by unfold isN;omega
theorem ziJ {f:List Node} {h:Int} (hr:zaJ f) (hh:isN f h):zlt (nodeD f h)=true∧zgI f h (nodeD f h)=true∧¬zgB f h:=by
 unfold isN at hh
 obtain⟨n,hn⟩:=zjS hh.1 hh.2
 obtain⟨h1,h2,h3⟩:=zcx hn
 have hk:(h-1).toNat<f.length:=by omega
 have:=hr.2 (h-1).toNat hk
 rw[List.getElem?_eq_getElem hk]at h3
 cases h3
 rw[show(((h-1).toNat:Nat):Int)+1=h by omega]at this
 unfold nodeD
 rw[hn];exact this
structure Lk (f:List Node) (h:Int):Prop where
 kids:∀y∈kidsL f h,isN f y∧par f y=h∧(nodeD f y).doc=(nodeD f h).doc
 nodup:(kidsL f h).Nodup
 par:par f h=0∨(isN f (par f h)∧h∈kidsL f (par f h))
 shadow:(nodeD f h).shadow=0∨(isN f (nodeD f h).shadow∧(nodeD f (nodeD f h).shadow).kind=12∧(nodeD f (nodeD f h).shadow).host=h)
 host:(nodeD f h).kind=12→isN f (nodeD f h).host∧(nodeD f (nodeD f h).host).kind=1∧(nodeD f (nodeD f h).host).shadow=h∧(nodeD f (nodeD f h).host).doc=(nodeD f h).doc
 doc:(nodeD f (nodeD f h).doc).kind=9
 own:(nodeD f h).kind=9→(nodeD f h).doc=h
 fam:famB f (nodeD f h).kind (kidsL f h)=true
theorem zda {f:List Node} {h:Int} (hr:zaJ f) (hh:isN f h):Lk f h:=by
 obtain⟨-,hl,-⟩:=ziJ hr hh
 unfold zgI at hl
 simp only[Bool.and_eq_true,Bool.or_eq_true,znl,decide_eq_true_eq,beq_iff_eq,List.all_eq_true,zjw,Bool.not_eq_true']at hl
 obtain⟨⟨⟨⟨⟨⟨⟨h1,h2⟩,h3⟩,h4⟩,h5⟩,h6⟩,h7⟩,h8⟩:=hl
 refine⟨fun y hy=>⟨(h1 y hy).1.1,(h1 y hy).1.2,(h1 y hy).2⟩,h2,?_,?_,?_,h4,?_,h8⟩
 ·rcases h3 with e|⟨e1,e2⟩
  ·exact .inl e
  ·right
   refine⟨e1,?_⟩
   unfold kidsL par
   have:0<(nodeD f (nodeD f h).parent).kids.l.count h:=by omega
   exact List.count_pos_iff.1 this
 ·rcases h6 with e|⟨⟨e1,e2⟩,e3⟩
  ·exact .inl e
  ·exact .inr ⟨e1,e2,e3⟩
 ·intro e
  rcases h7 with e1|⟨⟨⟨e1,e2⟩,e3⟩,e4⟩
  ·rw[e]at e1;simp at e1
  ·exact⟨e1,e2,e3,e4⟩
 ·intro e
  rcases h5 with e1|e1
  ·rw[e]at e1;simp at e1
  ·exact e1
theorem zsZ {f:List Node} {h:Int} (hr:zaJ f) (hh:isN f h) (hk:(nodeD f h).kind=12):par f h=0:=by
 obtain⟨hm,-,-⟩:=ziJ hr hh
 unfold zlt at hm
 simp only[Bool.and_eq_true]at hm
 have:=hm.1.2
 rw[hk]at this
 simpa[ziH,par]using this
theorem zem {f:List Node} {h:Int} (hr:zaJ f) (hp:par f h≠0):isN f h∧isN f (par f h)∧h∈kidsL f (par f h)∧nx f h=par f h:=by
 have hh:isN f h:=Classical.byContradiction fun hno=>hp (zHN hno)
 obtain⟨h1,h2⟩:=(zda hr hh).par.resolve_left hp
 refine⟨hh,h1,h2,?_⟩
 unfold nx zeJ
 by_cases e:(nodeD f h).kind=12
 ·exact absurd (zsZ hr hh e) hp
 ·rw[if_neg (by simpa using e)];rfl
theorem zAe {f:List Node} {h y:Int} (hr:zaJ f) (hh:isN f h):y∈kidsL f h↔isN f y∧par f y=h:=by
 constructor
 ·intro hy
  have:=(zda hr hh).kids y hy
  exact⟨this.1,this.2.1⟩
 ·rintro⟨hy,rfl⟩
  exact(zem hr (fun e=>zbr (e▸hh))).2.2.1
theorem zcO {f:List Node} {h y:Int} (hr:zaJ f) (hy:y∈kidsL f h):isN f h∧isN f y∧par f y=h∧nx f y=h:=by
 have hh:isN f h:=Classical.byContradiction fun hno=>by rw[zEg hno]at hy;cases hy
 obtain⟨h1,h2⟩:=(zAe hr hh).1 hy
 have:=zem hr (show par f y≠0 by rw[h2];exact fun e=>zbr (e▸hh))
 exact⟨hh,h1,h2,by rw[this.2.2.2,h2]⟩
def dp (f:List Node):Nat→Int→Nat
 |0,_=>0
 |n+1,h=>if isN f h then dp f n (nx f h)+1 else 0
def dA (f:List Node) (h:Int):Nat:=dp f (f.length+1) h
theorem zLi (f:List Node):∀n h,dp f n h≤n
 |0,_=>Nat.le_refl _
 |n+1,h=>by
  unfold dp
  split
  ·have:=zLi f n (nx f h);omega
  ·omega
theorem zpC (f:List Node):∀n x k,k≤n→¬isN f (itr f k x)→dp f (n+1) x=dp f n x
 |0,x,k,hk,hn=>by
  obtain rfl:k=0:=by omega
  exact if_neg hn
 |n+1,x,k,hk,hn=>by
  show(if isN f x then dp f (n+1) (nx f x)+1 else 0)=(if isN f x then dp f n (nx f x)+1 else 0)
  by_cases hx:isN f x
  ·rcases k with _|k
   ·exact absurd hx hn
   ·rw[if_pos hx,if_pos hx,zpC f n (nx f x) k (by omega) hn]
  ·rw[if_neg hx,if_neg hx]
theorem zLj {f:List Node} {h:Int} (hh:¬isN f h):dA f h=0:=by
 show(if isN f h then _ else 0)=0
 rw[if_neg hh]
theorem zvy (f:List Node) (h:Int):dA f h≤f.length+1:=zLi f _ _
theorem zdY {f:List Node} {h:Int} (hr:zaJ f) (hh:isN f h):dA f h=dA f (nx f h)+1:=by
 obtain⟨-,-,hl⟩:=ziJ hr hh
 have hex:∃k,k<f.length+1∧¬isN f (itr f k h):=by
  refine Classical.byContradiction fun hno=>hl (zlY fun k hk=> ?_)
  exact Classical.byContradiction fun h2=>hno ⟨k,hk,h2⟩
 obtain⟨k,hk,hn⟩:=hex
 rcases k with _|k
 ·exact absurd hh hn
 ·show(if isN f h then dp f f.length (nx f h)+1 else 0)=_
  rw[if_pos hh]
  unfold dA
  rw[zpC f f.length (nx f h) k (by omega) hn]
theorem zfo {f:List Node} (hr:zaJ f) {P:Int→Prop} (h0:∀h,¬isN f h→P h) (hs:∀h,isN f h→P (nx f h)→P h):∀h,P h:=by
 intro h
 generalize hm:dA f h=m
 induction m using Nat.strongRecOn generalizing h with
 |_ m ih=>
  by_cases hh:isN f h
  ·have:=zdY hr hh
   exact hs h hh (ih (dA f (nx f h)) (by omega) _ rfl)
  ·exact h0 h hh
theorem zhf {f:List Node} (hr:zaJ f) {P:Int→Prop} (h0:∀h,¬isN f h→P h) (hs:∀h,isN f h→P (par f h)→P h):∀h,P h:=by
 refine zfo hr h0 fun h hh hP=>hs h hh ?_
 by_cases e:par f h=0
 ·rw[e];exact h0 0 zbr
 ·rw[←(zem hr e).2.2.2];exact hP
theorem zjU {f:List Node} (hr:zaJ f) {P:Int→Prop} (hs:∀h,isN f h→(∀k,isN f k→nx f k=h→P k)→P h):∀h,isN f h→P h:=by
 intro h hh
 generalize hm:f.length+1-dA f h=m
 induction m using Nat.strongRecOn generalizing h with
 |_ m ih=>
  refine hs h hh fun k hk e=>ih _ ?_ k hk rfl
  have h1:=zdY hr hk
  have h2:=zvy f k
  rw[e]at h1
  omega
theorem zhg {f:List Node} (hr:zaJ f) {P:Int→Prop} (hs:∀h,isN f h→(∀k∈kidsL f h,P k)→P h):∀h,isN f h→P h:=
 zjU hr fun h hh ih=>hs h hh fun k hk=>ih k (zcO hr hk).2.1 (zcO hr hk).2.2.2
def zEh (f:List Node):Nat→Int→List Int
 |0,_=>[]
 |n+1,h=>if isN f h then h::zEh f n (par f h)else[]
def anc (f:List Node) (h:Int):List Int:=zEh f (f.length+1) h
theorem znm {f:List Node} {h:Int} (hh:¬isN f h):∀n,zEh f n h=[]
 |0=>rfl
 |n+1=>by unfold zEh;rw[if_neg hh]
theorem zAf {f:List Node} {h:Int} (hr:zaJ f) (hh:isN f h):dA f (par f h)+1≤dA f h:=by
 have h1:=zdY hr hh
 by_cases e:par f h=0
 ·rw[e,zLj zbr];omega
 ·rw[(zem hr e).2.2.2]at h1;omega
theorem zkV {f:List Node} (hr:zaJ f):∀n h,dA f h≤n→zEh f (n+1) h=zEh f n h
 |0,h,hd=>by
  by_cases hh:isN f h
  ·have:=zdY hr hh;omega
  ·rw[znm hh,znm hh]
 |n+1,h,hd=>by
  show(if isN f h then h::zEh f (n+1) (par f h)else[])=(if isN f h then h::zEh f n (par f h)else[])
  by_cases hh:isN f h
  ·have:=zAf hr hh
   rw[if_pos hh,if_pos hh,zkV hr n _ (by omega)]
  ·rw[if_neg hh,if_neg hh]
theorem ziK {f:List Node} {h:Int} (hh:¬isN f h):anc f h=[]:=znm hh _
theorem zgJ {f:List Node} {h:Int} (hr:zaJ f) (hh:isN f h):anc f h=h::anc f (par f h):=by
 show(if isN f h then h::zEh f f.length (par f h)else[])=_
 have h1:=zAf hr hh
 have h2:=zvy f h
 rw[if_pos hh]
 unfold anc
 rw[zkV hr f.length _ (by omega)]
theorem zkW {f:List Node} (hr:zaJ f) {k:Int}:∀b,k∈anc f b→isN f k∧isN f b:=by
 refine zhf hr (fun h hh hk=>by rw[ziK hh]at hk;cases hk) fun h hh ih hk=> ?_
 rw[zgJ hr hh]at hk
 rcases List.mem_cons.1 hk with rfl|hk
 ·exact⟨hh,hh⟩
 ·exact⟨(ih hk).1,hh⟩
theorem znn {f:List Node} {h:Int} (hr:zaJ f) (hh:isN f h):h∈anc f h:=by rw[zgJ hr hh];exact List.mem_cons_self
theorem zLk {f:List Node} (hr:zaJ f) {k:Int} (hp:par f k≠0):∀b,k∈anc f b→par f k∈anc f b:=by
 refine zhf hr (fun h hh hk=>by rw[ziK hh]at hk;cases hk) fun h hh ih hk=> ?_
 rw[zgJ hr hh]at hk⊢
 rcases List.mem_cons.1 hk with rfl|hk
 ·exact List.mem_cons_of_mem _ (znn hr (zem hr hp).2.1)
 ·exact List.mem_cons_of_mem _ (ih hk)
theorem zAg {f:List Node} (hr:zaJ f) {k:Int}:∀b,k∈anc f b→dA f k≤dA f b:=by
 refine zhf hr (fun h hh hk=>by rw[ziK hh]at hk;cases hk) fun h hh ih hk=> ?_
 rw[zgJ hr hh]at hk
 rcases List.mem_cons.1 hk with rfl|hk
 ·exact Nat.le_refl _
 ·have:=ih hk;have:=zAf hr hh;omega
def root (f:List Node) (h:Int):Int:=(anc f h).getLast?.getD 0
theorem zno {f:List Node} {h:Int} (hr:zaJ f) (hh:isN f h) (hp:par f h=0):root f h=h:=by
 unfold root
 rw[zgJ hr hh,hp,ziK zbr];rfl
theorem znp {f:List Node} {h:Int} (hr:zaJ f) (hp:par f h≠0):root f h=root f (par f h):=by
 obtain⟨hh,h1,-,-⟩:=zem hr hp
 unfold root
 rw[zgJ hr hh,zgJ hr h1,List.getLast?_cons_cons]
theorem zfj {f:List Node} (hr:zaJ f):∀h,isN f h→root f h∈anc f h∧par f (root f h)=0∧isN f (root f h):=by
 refine zhf hr (fun h hh hk=>absurd hk hh) fun h hh ih _=> ?_
 by_cases hp:par f h=0
 ·rw[zno hr hh hp];exact⟨znn hr hh,hp,hh⟩
 ·obtain⟨g1,g2,g3⟩:=ih (zem hr hp).2.1
  rw[znp hr hp]
  exact⟨by rw[zgJ hr hh];exact List.mem_cons_of_mem _ g1,g2,g3⟩
def zHO (f:List Node):Nat→Int→List Int
 |0,_=>[]
 |n+1,h=>h::(kidsL f h).flatMap (zHO f n)
def zdw (f:List Node) (h:Int):List Int:=zHO f (f.length+1) h
theorem zhP {α β:Type} {g1 g2:α→List β}:∀{l:List α},(∀a∈l,g1 a=g2 a)→l.flatMap g1=l.flatMap g2
 |[],_=>rfl
 |a::l,h=>by rw[List.flatMap_cons,List.flatMap_cons,h a List.mem_cons_self,zhP fun b hb=>h b (List.mem_cons_of_mem _ hb)]
theorem zta {f:List Node} {h k:Int} (hr:zaJ f) (hk:k∈kidsL f h):dA f k=dA f h+1:=by
 obtain⟨_,h1,_,h3⟩:=zcO hr hk
 rw[zdY hr h1,h3]
theorem zkX {f:List Node} (hr:zaJ f):∀n h,f.length+2≤n+dA f h→zHO f (n+1) h=zHO f n h
 |0,h,hd=>by have:=zvy f h;omega
 |n+1,h,hd=>by
  show h::(kidsL f h).flatMap (zHO f (n+1))=h::(kidsL f h).flatMap (zHO f n)
  rw[zhP fun k hk=>zkX hr n k (by have:=zta hr hk;omega)]
theorem all_in {f:List Node} {h:Int} (hr:zaJ f) (hh:isN f h):zdw f h=h::(kidsL f h).flatMap (zdw f):=by
 show h::(kidsL f h).flatMap (zHO f f.length)=_
 rw[zhP fun k hk=>(zkX hr f.length k (by have:=zta hr hk;have:=zdY hr hh;omega)).symm]
 rfl
theorem zHP {f:List Node} (hr:zaJ f) {x:Int}:∀h,isN f h→x∈zdw f h→h∈anc f x:=by
 refine zhg hr fun h hh ih hx=> ?_
 rw[all_in hr hh]at hx
 rcases List.mem_cons.1 hx with rfl|hx
 ·exact znn hr hh
 ·obtain⟨k,hk,hx⟩:=List.mem_flatMap.1 hx
  have h1:=ih k hk hx
  obtain⟨_,_,e,_⟩:=zcO hr hk
  have:=zLk hr (show par f k≠0 by rw[e];exact fun e=>zbr (e▸hh)) _ h1
  rwa [e]at this
theorem zAh {f:List Node} (hr:zaJ f) {x k:Int} (hk:k∈kidsL f x):∀h,isN f h→x∈zdw f h→k∈zdw f h:=by
 refine zhg hr fun h hh ih hx=> ?_
 rw[all_in hr hh]at hx⊢
 rcases List.mem_cons.1 hx with rfl|hx
 ·refine List.mem_cons_of_mem _ (List.mem_flatMap.2 ⟨k,hk,?_⟩)
  rw[all_in hr (zcO hr hk).2.1];exact List.mem_cons_self
 ·obtain⟨y,hy,hx⟩:=List.mem_flatMap.1 hx
  exact List.mem_cons_of_mem _ (List.mem_flatMap.2 ⟨y,hy,ih y hy hx⟩)
theorem zHQ {f:List Node} (hr:zaJ f) {h:Int}:∀b,h∈anc f b→b∈zdw f h:=by
 refine zhf hr (fun b hb hk=>by rw[ziK hb]at hk;cases hk) fun b hb ih hk=> ?_
 have hh:=(zkW hr _ hk).1
 rw[zgJ hr hb]at hk
 rcases List.mem_cons.1 hk with rfl|hk
 ·rw[all_in hr hh];exact List.mem_cons_self
 ·have hp:par f b≠0:=fun e=>by rw[e,ziK zbr]at hk;cases hk
  exact zAh hr (zem hr hp).2.2.1 h hh (ih hk)
theorem znq {f:List Node} (hr:zaJ f) {h b:Int} (hh:isN f h):b∈zdw f h↔h∈anc f b:=⟨zHP hr h hh,zHQ hr b⟩
end Go.Proofs.YthodcjjgimeeoaaGreat.P
