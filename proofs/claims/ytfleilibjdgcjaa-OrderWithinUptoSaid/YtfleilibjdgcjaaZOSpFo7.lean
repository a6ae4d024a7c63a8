/- Shaken copy of a longer text: what one law needs. Its conditions: none. -/
import Derived.Test.YtfleilibjdgcjaaZOSpFo6
set_option linter.unusedSimpArgs false
set_option linter.unusedVariables false
set_option linter.unusedSimpArgs false
set_option linter.unusedVariables false
set_option linter.unusedSectionVars false
set_option linter.unnecessarySimpa false
namespace Go.Proofs.Ytfleilibjdgcjaa.O
open Go.AI
def par (f:List Node) (h:Int):Int:=(nodeD f h).parent
def kidsL (f:List Node) (h:Int):List Int:=(nodeD f h).kids.l
theorem zfe {f:List Node} {h:Int} (hh:¬isN f h):nodeD f h=nd0:=by
 unfold nodeD
 rcases e:zce f h with _|n
 ·rfl
 ·have:=zcm e;exact absurd ⟨this.1,this.2.1⟩ hh
theorem zFt {f:List Node} {h:Int} (hh:¬isN f h):par f h=0:=by unfold par;rw[zfe hh];rfl
theorem zCf {f:List Node} {h:Int} (hh:¬isN f h):kidsL f h=[]:=by unfold kidsL;rw[zfe hh];rfl
theorem zbB {f:List Node}:¬isN f 0:=by unfold isN;omega
theorem zij {f:List Node} {h:Int} (hr:zaO f) (hh:isN f h):zkA (nodeD f h)=true∧zgg f h (nodeD f h)=true∧¬zfZ f h:=by
 unfold isN at hh
 obtain⟨n,hn⟩:=zhj hh.1 hh.2
 obtain⟨h1,h2,h3⟩:=zcm hn
 have hk:(h-1).toNat<f.length:=by omega
 have:=hr.2 (h-1).toNat hk
 rw[List.getElem?_eq_getElem hk]at h3
 cases h3
 rw[show(((h-1).toNat:Nat):Int)+1=h by omega]at this
 unfold nodeD
 rw[hn];exact this
structure Lk (f:List Node) (h:Int):Prop where
 kids:∀y∈kidsL f h,isN f y∧par f y=h∧(nodeD f y).doc=(nodeD f h).doc
 nodup:(kidsL f h).Nodup
 par:par f h=0∨(isN f (par f h)∧h∈kidsL f (par f h))
 shadow:(nodeD f h).shadow=0∨(isN f (nodeD f h).shadow∧(nodeD f (nodeD f h).shadow).kind=12∧(nodeD f (nodeD f h).shadow).host=h)
 host:(nodeD f h).kind=12→isN f (nodeD f h).host∧(nodeD f (nodeD f h).host).kind=1∧(nodeD f (nodeD f h).host).shadow=h∧(nodeD f (nodeD f h).host).doc=(nodeD f h).doc
 doc:(nodeD f (nodeD f h).doc).kind=9
 own:(nodeD f h).kind=9→(nodeD f h).doc=h
 fam:famB f (nodeD f h).kind (kidsL f h)=true
theorem zdO {f:List Node} {h:Int} (hr:zaO f) (hh:isN f h):Lk f h:=by
 obtain⟨-,hl,-⟩:=zij hr hh
 unfold zgg at hl
 simp only[Bool.and_eq_true,Bool.or_eq_true,zmw,decide_eq_true_eq,beq_iff_eq,List.all_eq_true,ziL,Bool.not_eq_true']at hl
 obtain⟨⟨⟨⟨⟨⟨⟨h1,h2⟩,h3⟩,h4⟩,h5⟩,h6⟩,h7⟩,h8⟩:=hl
 refine⟨fun y hy=>⟨(h1 y hy).1.1,(h1 y hy).1.2,(h1 y hy).2⟩,h2,?_,?_,?_,h4,?_,h8⟩
 ·rcases h3 with e|⟨e1,e2⟩
  ·exact .inl e
  ·right
   refine⟨e1,?_⟩
   unfold kidsL par
   have:0<(nodeD f (nodeD f h).parent).kids.l.count h:=by omega
   exact List.count_pos_iff.1 this
 ·rcases h6 with e|⟨⟨e1,e2⟩,e3⟩
  ·exact .inl e
  ·exact .inr ⟨e1,e2,e3⟩
 ·intro e
  rcases h7 with e1|⟨⟨⟨e1,e2⟩,e3⟩,e4⟩
  ·rw[e]at e1;simp at e1
  ·exact⟨e1,e2,e3,e4⟩
 ·intro e
  rcases h5 with e1|e1
  ·rw[e]at e1;simp at e1
  ·exact e1
theorem zrP {f:List Node} {h:Int} (hr:zaO f) (hh:isN f h) (hk:(nodeD f h).kind=12):par f h=0:=by
 obtain⟨hm,-,-⟩:=zij hr hh
 unfold zkA at hm
 simp only[Bool.and_eq_true]at hm
 have:=hm.1.2
 rw[hk]at this
 simpa[zif,par]using this
theorem zeO {f:List Node} {h:Int} (hr:zaO f) (hp:par f h≠0):isN f h∧isN f (par f h)∧h∈kidsL f (par f h)∧nx f h=par f h:=by
 have hh:isN f h:=Classical.byContradiction fun hno=>hp (zFt hno)
 obtain⟨h1,h2⟩:=(zdO hr hh).par.resolve_left hp
 refine⟨hh,h1,h2,?_⟩
 unfold nx zfc
 by_cases e:(nodeD f h).kind=12
 ·exact absurd (zrP hr hh e) hp
 ·rw[if_neg (by simpa using e)];rfl
theorem zyu {f:List Node} {h y:Int} (hr:zaO f) (hh:isN f h):y∈kidsL f h↔isN f y∧par f y=h:=by
 constructor
 ·intro hy
  have:=(zdO hr hh).kids y hy
  exact⟨this.1,this.2.1⟩
 ·rintro⟨hy,rfl⟩
  exact(zeO hr (fun e=>zbB (e▸hh))).2.2.1
theorem zca {f:List Node} {h y:Int} (hr:zaO f) (hy:y∈kidsL f h):isN f h∧isN f y∧par f y=h∧nx f y=h:=by
 have hh:isN f h:=Classical.byContradiction fun hno=>by rw[zCf hno]at hy;cases hy
 obtain⟨h1,h2⟩:=(zyu hr hh).1 hy
 have:=zeO hr (show par f y≠0 by rw[h2];exact fun e=>zbB (e▸hh))
 exact⟨hh,h1,h2,by rw[this.2.2.2,h2]⟩
def dp (f:List Node):Nat→Int→Nat
 |0,_=>0
 |n+1,h=>if isN f h then dp f n (nx f h)+1 else 0
def dA (f:List Node) (h:Int):Nat:=dp f (f.length+1) h
theorem zIR (f:List Node):∀n h,dp f n h≤n
 |0,_=>Nat.le_refl _
 |n+1,h=>by
  unfold dp
  split
  ·have:=zIR f n (nx f h);omega
  ·omega
theorem zoM (f:List Node):∀n x k,k≤n→¬isN f (itr f k x)→dp f (n+1) x=dp f n x
 |0,x,k,hk,hn=>by
  obtain rfl:k=0:=by omega
  exact if_neg hn
 |n+1,x,k,hk,hn=>by
  show(if isN f x then dp f (n+1) (nx f x)+1 else 0)=(if isN f x then dp f n (nx f x)+1 else 0)
  by_cases hx:isN f x
  ·rcases k with _|k
   ·exact absurd hx hn
   ·rw[if_pos hx,if_pos hx,zoM f n (nx f x) k (by omega) hn]
  ·rw[if_neg hx,if_neg hx]
theorem zIS {f:List Node} {h:Int} (hh:¬isN f h):dA f h=0:=by
 show(if isN f h then _ else 0)=0
 rw[if_neg hh]
theorem zyv (f:List Node) (h:Int):dA f h≤f.length+1:=zIR f _ _
theorem zeH {f:List Node} {h:Int} (hr:zaO f) (hh:isN f h):dA f h=dA f (nx f h)+1:=by
 obtain⟨-,-,hl⟩:=zij hr hh
 have hex:∃k,k<f.length+1∧¬isN f (itr f k h):=by
  refine Classical.byContradiction fun hno=>hl (zlh fun k hk=> ?_)
  exact Classical.byContradiction fun h2=>hno ⟨k,hk,h2⟩
 obtain⟨k,hk,hn⟩:=hex
 rcases k with _|k
 ·exact absurd hh hn
 ·show(if isN f h then dp f f.length (nx f h)+1 else 0)=_
  rw[if_pos hh]
  unfold dA
  rw[zoM f f.length (nx f h) k (by omega) hn]
theorem zeo {f:List Node} (hr:zaO f) {P:Int→Prop} (h0:∀h,¬isN f h→P h) (hs:∀h,isN f h→P (nx f h)→P h):∀h,P h:=by
 intro h
 generalize hm:dA f h=m
 induction m using Nat.strongRecOn generalizing h with
 |_ m ih=>
  by_cases hh:isN f h
  ·have:=zeH hr hh
   exact hs h hh (ih (dA f (nx f h)) (by omega) _ rfl)
  ·exact h0 h hh
theorem zcM {f:List Node} (hr:zaO f) {P:Int→Prop} (h0:∀h,¬isN f h→P h) (hs:∀h,isN f h→P (par f h)→P h):∀h,P h:=by
 refine zeo hr h0 fun h hh hP=>hs h hh ?_
 by_cases e:par f h=0
 ·rw[e];exact h0 0 zbB
 ·rw[←(zeO hr e).2.2.2];exact hP
theorem zfS {f:List Node} (hr:zaO f) {P:Int→Prop} (hs:∀h,isN f h→(∀k,isN f k→nx f k=h→P k)→P h):∀h,isN f h→P h:=by
 intro h hh
 generalize hm:f.length+1-dA f h=m
 induction m using Nat.strongRecOn generalizing h with
 |_ m ih=>
  refine hs h hh fun k hk e=>ih _ ?_ k hk rfl
  have h1:=zeH hr hk
  have h2:=zyv f k
  rw[e]at h1
  omega
theorem zik {f:List Node} (hr:zaO f) {P:Int→Prop} (hs:∀h,isN f h→(∀k∈kidsL f h,P k)→P h):∀h,isN f h→P h:=
 zfS hr fun h hh ih=>hs h hh fun k hk=>ih k (zca hr hk).2.1 (zca hr hk).2.2.2
def zyw (f:List Node):Nat→Int→List Int
 |0,_=>[]
 |n+1,h=>if isN f h then h::zyw f n (par f h)else[]
def anc (f:List Node) (h:Int):List Int:=zyw f (f.length+1) h
theorem zmy {f:List Node} {h:Int} (hh:¬isN f h):∀n,zyw f n h=[]
 |0=>rfl
 |n+1=>by unfold zyw;rw[if_neg hh]
theorem zyx {f:List Node} {h:Int} (hr:zaO f) (hh:isN f h):dA f (par f h)+1≤dA f h:=by
 have h1:=zeH hr hh
 by_cases e:par f h=0
 ·rw[e,zIS zbB];omega
 ·rw[(zeO hr e).2.2.2]at h1;omega
theorem zkk {f:List Node} (hr:zaO f):∀n h,dA f h≤n→zyw f (n+1) h=zyw f n h
 |0,h,hd=>by
  by_cases hh:isN f h
  ·have:=zeH hr hh;omega
  ·rw[zmy hh,zmy hh]
 |n+1,h,hd=>by
  show(if isN f h then h::zyw f (n+1) (par f h)else[])=(if isN f h then h::zyw f n (par f h)else[])
  by_cases hh:isN f h
  ·have:=zyx hr hh
   rw[if_pos hh,if_pos hh,zkk hr n _ (by omega)]
  ·rw[if_neg hh,if_neg hh]
theorem zcN {f:List Node} {h:Int} (hh:¬isN f h):anc f h=[]:=zmy hh _
theorem zcn {f:List Node} {h:Int} (hr:zaO f) (hh:isN f h):anc f h=h::anc f (par f h):=by
 show(if isN f h then h::zyw f f.length (par f h)else[])=_
 have h1:=zyx hr hh
 have h2:=zyv f h
 rw[if_pos hh]
 unfold anc
 rw[zkk hr f.length _ (by omega)]
theorem zyy (f:List Node) (h:Int):(anc f h).length≤f.length+1:=by
 have:∀n h,(zyw f n h).length≤n:=by
  intro n
  induction n with
  |zero=>intro h;exact Nat.le_refl _
  |succ n ih=>
   intro h
   unfold zyw
   split
   ·have:=ih (par f h);simp;omega
   ·simp
 exact this _ _
theorem zmz {f:List Node} (hr:zaO f) {k:Int}:∀b,k∈anc f b→isN f k∧isN f b:=by
 refine zcM hr (fun h hh hk=>by rw[zcN hh]at hk;cases hk) fun h hh ih hk=> ?_
 rw[zcn hr hh]at hk
 rcases List.mem_cons.1 hk with rfl|hk
 ·exact⟨hh,hh⟩
 ·exact⟨(ih hk).1,hh⟩
theorem zmA {f:List Node} {h:Int} (hr:zaO f) (hh:isN f h):h∈anc f h:=by rw[zcn hr hh];exact List.mem_cons_self
theorem zIT {f:List Node} (hr:zaO f) {k:Int} (hp:par f k≠0):∀b,k∈anc f b→par f k∈anc f b:=by
 refine zcM hr (fun h hh hk=>by rw[zcN hh]at hk;cases hk) fun h hh ih hk=> ?_
 rw[zcn hr hh]at hk⊢
 rcases List.mem_cons.1 hk with rfl|hk
 ·exact List.mem_cons_of_mem _ (zmA hr (zeO hr hp).2.1)
 ·exact List.mem_cons_of_mem _ (ih hk)
theorem zyz {f:List Node} (hr:zaO f) {a b:Int} (hab:a∈anc f b):∀c,b∈anc f c→a∈anc f c:=by
 refine zcM hr (fun h hh hk=>by rw[zcN hh]at hk;cases hk) fun h hh ih hk=> ?_
 rw[zcn hr hh]at hk
 rcases List.mem_cons.1 hk with rfl|hk
 ·exact hab
 ·rw[zcn hr hh];exact List.mem_cons_of_mem _ (ih hk)
theorem zyA {f:List Node} (hr:zaO f) {k:Int}:∀b,k∈anc f b→dA f k≤dA f b:=by
 refine zcM hr (fun h hh hk=>by rw[zcN hh]at hk;cases hk) fun h hh ih hk=> ?_
 rw[zcn hr hh]at hk
 rcases List.mem_cons.1 hk with rfl|hk
 ·exact Nat.le_refl _
 ·have:=ih hk;have:=zyx hr hh;omega
def root (f:List Node) (h:Int):Int:=(anc f h).getLast?.getD 0
theorem zji {f:List Node} {h:Int} (hr:zaO f) (hh:isN f h) (hp:par f h=0):root f h=h:=by
 unfold root
 rw[zcn hr hh,hp,zcN zbB];rfl
theorem zjj {f:List Node} {h:Int} (hr:zaO f) (hp:par f h≠0):root f h=root f (par f h):=by
 obtain⟨hh,h1,-,-⟩:=zeO hr hp
 unfold root
 rw[zcn hr hh,zcn hr h1,List.getLast?_cons_cons]
theorem zeI {f:List Node} (hr:zaO f):∀h,isN f h→root f h∈anc f h∧par f (root f h)=0∧isN f (root f h):=by
 refine zcM hr (fun h hh hk=>absurd hk hh) fun h hh ih _=> ?_
 by_cases hp:par f h=0
 ·rw[zji hr hh hp];exact⟨zmA hr hh,hp,hh⟩
 ·obtain⟨g1,g2,g3⟩:=ih (zeO hr hp).2.1
  rw[zjj hr hp]
  exact⟨by rw[zcn hr hh];exact List.mem_cons_of_mem _ g1,g2,g3⟩
theorem zoN {f:List Node} (hr:zaO f) {r:Int} (hp:par f r=0):∀b,r∈anc f b→r=root f b:=by
 refine zcM hr (fun h hh hk=>by rw[zcN hh]at hk;cases hk) fun h hh ih hk=> ?_
 rw[zcn hr hh]at hk
 by_cases hq:par f h=0
 ·rw[hq,zcN zbB]at hk
  rcases List.mem_cons.1 hk with rfl|hk
  ·exact(zji hr hh hq).symm
  ·cases hk
 ·rcases List.mem_cons.1 hk with rfl|hk
  ·exact absurd hp hq
  ·rw[zjj hr hq];exact ih hk
def zFu (f:List Node):Nat→Int→List Int
 |0,_=>[]
 |n+1,h=>h::(kidsL f h).flatMap (zFu f n)
def zbG (f:List Node) (h:Int):List Int:=zFu f (f.length+1) h
theorem zhn {α β:Type} {g1 g2:α→List β}:∀{l:List α},(∀a∈l,g1 a=g2 a)→l.flatMap g1=l.flatMap g2
 |[],_=>rfl
 |a::l,h=>by rw[List.flatMap_cons,List.flatMap_cons,h a List.mem_cons_self,zhn fun b hb=>h b (List.mem_cons_of_mem _ hb)]
theorem zoO {f:List Node} {h k:Int} (hr:zaO f) (hk:k∈kidsL f h):dA f k=dA f h+1:=by
 obtain⟨_,h1,_,h3⟩:=zca hr hk
 rw[zeH hr h1,h3]
theorem zkl {f:List Node} (hr:zaO f):∀n h,f.length+2≤n+dA f h→zFu f (n+1) h=zFu f n h
 |0,h,hd=>by have:=zyv f h;omega
 |n+1,h,hd=>by
  show h::(kidsL f h).flatMap (zFu f (n+1))=h::(kidsL f h).flatMap (zFu f n)
  rw[zhn fun k hk=>zkl hr n k (by have:=zoO hr hk;omega)]
theorem all_in {f:List Node} {h:Int} (hr:zaO f) (hh:isN f h):zbG f h=h::(kidsL f h).flatMap (zbG f):=by
 show h::(kidsL f h).flatMap (zFu f f.length)=_
 rw[zhn fun k hk=>(zkl hr f.length k (by have:=zoO hr hk;have:=zeH hr hh;omega)).symm]
 rfl
theorem zFv {f:List Node} (hr:zaO f) {x:Int}:∀h,isN f h→x∈zbG f h→h∈anc f x:=by
 refine zik hr fun h hh ih hx=> ?_
 rw[all_in hr hh]at hx
 rcases List.mem_cons.1 hx with rfl|hx
 ·exact zmA hr hh
 ·obtain⟨k,hk,hx⟩:=List.mem_flatMap.1 hx
  have h1:=ih k hk hx
  obtain⟨_,_,e,_⟩:=zca hr hk
  have:=zIT hr (show par f k≠0 by rw[e];exact fun e=>zbB (e▸hh)) _ h1
  rwa [e]at this
theorem zyB {f:List Node} (hr:zaO f) {x k:Int} (hk:k∈kidsL f x):∀h,isN f h→x∈zbG f h→k∈zbG f h:=by
 refine zik hr fun h hh ih hx=> ?_
 rw[all_in hr hh]at hx⊢
 rcases List.mem_cons.1 hx with rfl|hx
 ·refine List.mem_cons_of_mem _ (List.mem_flatMap.2 ⟨k,hk,?_⟩)
  rw[all_in hr (zca hr hk).2.1];exact List.mem_cons_self
 ·obtain⟨y,hy,hx⟩:=List.mem_flatMap.1 hx
  exact List.mem_cons_of_mem _ (List.mem_flatMap.2 ⟨y,hy,ih y hy hx⟩)
theorem zFw {f:List Node} (hr:zaO f) {h:Int}:∀b,h∈anc f b→b∈zbG f h:=by
 refine zcM hr (fun b hb hk=>by rw[zcN hb]at hk;cases hk) fun b hb ih hk=> ?_
 have hh:=(zmz hr _ hk).1
 rw[zcn hr hb]at hk
 rcases List.mem_cons.1 hk with rfl|hk
 ·rw[all_in hr hh];exact List.mem_cons_self
 ·have hp:par f b≠0:=fun e=>by rw[e,zcN zbB]at hk;cases hk
  exact zyB hr (zeO hr hp).2.2.1 h hh (ih hk)
theorem zmB {f:List Node} (hr:zaO f) {h b:Int} (hh:isN f h):b∈zbG f h↔h∈anc f b:=⟨zFv hr h hh,zFw hr b⟩
theorem mem_root {f:List Node} (hr:zaO f) {a b:Int} (ha:isN f a) (hb:isN f b):b∈zbG f (root f a)↔root f a=root f b:=by
 obtain⟨h1,h2,h3⟩:=zeI hr a ha
 rw[zmB hr h3]
 constructor
 ·exact zoN hr h2 b
 ·intro e;rw[e];exact(zeI hr b hb).1
end Go.Proofs.Ytfleilibjdgcjaa.O
