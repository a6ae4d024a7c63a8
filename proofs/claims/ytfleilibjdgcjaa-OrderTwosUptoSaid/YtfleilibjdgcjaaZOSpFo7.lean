/- Shaken copy of a longer text: what one law needs. Its conditions: none. -/
import Derived.Test.YtfleilibjdgcjaaZOSpFo6
set_option linter.unusedSimpArgs false
set_option linter.unusedVariables false
set_option linter.unusedSimpArgs false
set_option linter.unusedVariables false
set_option linter.unusedSectionVars false
set_option linter.unnecessarySimpa false
namespace Go.Proofs.Ytfleilibjdgcjaa.O
open Go.AI
def par (f:List Node) (h:Int):Int:=(nodeD f h).parent
def kidsL (f:List Node) (h:Int):List Int:=(nodeD f h).kids.l
theorem zjm {f:List Node} {h:Int} (hh:¬isN f h):nodeD f h=nd0:=by
 unfold nodeD
 rcases e:zbV f h with _|n
 ·rfl
 ·have:=zce e;exact absurd ⟨this.1,this.2.1⟩ hh
theorem zDe {f:List Node} {h:Int} (hh:¬isN f h):par f h=0:=by unfold par;rw[zjm hh];rfl
theorem zAg {f:List Node} {h:Int} (hh:¬isN f h):kidsL f h=[]:=by unfold kidsL;rw[zjm hh];rfl
theorem zbT {f:List Node}:¬isN f 0:=by unfold isN;omega
theorem zhs {f:List Node} {h:Int} (hr:zbf f) (hh:isN f h):zjC (nodeD f h)=true∧zfy f h (nodeD f h)=true∧¬zfq f h:=by
 unfold isN at hh
 obtain⟨n,hn⟩:=zin hh.1 hh.2
 obtain⟨h1,h2,h3⟩:=zce hn
 have hk:(h-1).toNat<f.length:=by omega
 have:=hr.2 (h-1).toNat hk
 rw[List.getElem?_eq_getElem hk]at h3
 cases h3
 rw[show(((h-1).toNat:Nat):Int)+1=h by omega]at this
 unfold nodeD
 rw[hn];exact this
structure Lk (f:List Node) (h:Int):Prop where
 kids:∀y∈kidsL f h,isN f y∧par f y=h∧(nodeD f y).doc=(nodeD f h).doc
 nodup:(kidsL f h).Nodup
 par:par f h=0∨(isN f (par f h)∧h∈kidsL f (par f h))
 shadow:(nodeD f h).shadow=0∨(isN f (nodeD f h).shadow∧(nodeD f (nodeD f h).shadow).kind=12∧(nodeD f (nodeD f h).shadow).host=h)
 host:(nodeD f h).kind=12→isN f (nodeD f h).host∧(nodeD f (nodeD f h).host).kind=1∧(nodeD f (nodeD f h).host).shadow=h∧(nodeD f (nodeD f h).host).doc=(nodeD f h).doc
 doc:(nodeD f (nodeD f h).doc).kind=9
 own:(nodeD f h).kind=9→(nodeD f h).doc=h
 fam:famB f (nodeD f h).kind (kidsL f h)=true
theorem zls {f:List Node} {h:Int} (hr:zbf f) (hh:isN f h):Lk f h:=by
 obtain⟨-,hl,-⟩:=zhs hr hh
 unfold zfy at hl
 simp only[Bool.and_eq_true,Bool.or_eq_true,zlq,decide_eq_true_eq,beq_iff_eq,List.all_eq_true,zhP,Bool.not_eq_true']at hl
 obtain⟨⟨⟨⟨⟨⟨⟨h1,h2⟩,h3⟩,h4⟩,h5⟩,h6⟩,h7⟩,h8⟩:=hl
 refine⟨fun y hy=>⟨(h1 y hy).1.1,(h1 y hy).1.2,(h1 y hy).2⟩,h2,?_,?_,?_,h4,?_,h8⟩
 ·rcases h3 with e|⟨e1,e2⟩
  ·exact .inl e
  ·right
   refine⟨e1,?_⟩
   unfold kidsL par
   have:0<(nodeD f (nodeD f h).parent).kids.l.count h:=by omega
   exact List.count_pos_iff.1 this
 ·rcases h6 with e|⟨⟨e1,e2⟩,e3⟩
  ·exact .inl e
  ·exact .inr ⟨e1,e2,e3⟩
 ·intro e
  rcases h7 with e1|⟨⟨⟨e1,e2⟩,e3⟩,e4⟩
  ·rw[e]at e1;simp at e1
  ·exact⟨e1,e2,e3,e4⟩
 ·intro e
  rcases h5 with e1|e1
  ·rw[e]at e1;simp at e1
  ·exact e1
theorem zAh {f:List Node} {h:Int} (hr:zbf f) (hh:isN f h) (hk:(nodeD f h).kind=12):par f h=0:=by
 obtain⟨hm,-,-⟩:=zhs hr hh
 unfold zjC at hm
 simp only[Bool.and_eq_true]at hm
 have:=hm.1.2
 rw[hk]at this
 simpa[zho,par]using this
theorem zdS {f:List Node} {h:Int} (hr:zbf f) (hp:par f h≠0):isN f h∧isN f (par f h)∧h∈kidsL f (par f h)∧nx f h=par f h:=by
 have hh:isN f h:=Classical.byContradiction fun hno=>hp (zDe hno)
 obtain⟨h1,h2⟩:=(zls hr hh).par.resolve_left hp
 refine⟨hh,h1,h2,?_⟩
 unfold nx zkb
 by_cases e:(nodeD f h).kind=12
 ·exact absurd (zAh hr hh e) hp
 ·rw[if_neg (by simpa using e)];rfl
theorem zDf {f:List Node} {h y:Int} (hr:zbf f) (hh:isN f h):y∈kidsL f h↔isN f y∧par f y=h:=by
 constructor
 ·intro hy
  have:=(zls hr hh).kids y hy
  exact⟨this.1,this.2.1⟩
 ·rintro⟨hy,rfl⟩
  exact(zdS hr (fun e=>zbT (e▸hh))).2.2.1
theorem zev {f:List Node} {h y:Int} (hr:zbf f) (hy:y∈kidsL f h):isN f h∧isN f y∧par f y=h∧nx f y=h:=by
 have hh:isN f h:=Classical.byContradiction fun hno=>by rw[zAg hno]at hy;cases hy
 obtain⟨h1,h2⟩:=(zDf hr hh).1 hy
 have:=zdS hr (show par f y≠0 by rw[h2];exact fun e=>zbT (e▸hh))
 exact⟨hh,h1,h2,by rw[this.2.2.2,h2]⟩
def dp (f:List Node):Nat→Int→Nat
 |0,_=>0
 |n+1,h=>if isN f h then dp f n (nx f h)+1 else 0
def dA (f:List Node) (h:Int):Nat:=dp f (f.length+1) h
theorem zGz (f:List Node):∀n h,dp f n h≤n
 |0,_=>Nat.le_refl _
 |n+1,h=>by
  unfold dp
  split
  ·have:=zGz f n (nx f h);omega
  ·omega
theorem zns (f:List Node):∀n x k,k≤n→¬isN f (itr f k x)→dp f (n+1) x=dp f n x
 |0,x,k,hk,hn=>by
  obtain rfl:k=0:=by omega
  exact if_neg hn
 |n+1,x,k,hk,hn=>by
  show(if isN f x then dp f (n+1) (nx f x)+1 else 0)=(if isN f x then dp f n (nx f x)+1 else 0)
  by_cases hx:isN f x
  ·rcases k with _|k
   ·exact absurd hx hn
   ·rw[if_pos hx,if_pos hx,zns f n (nx f x) k (by omega) hn]
  ·rw[if_neg hx,if_neg hx]
theorem zGA {f:List Node} {h:Int} (hh:¬isN f h):dA f h=0:=by
 show(if isN f h then _ else 0)=0
 rw[if_neg hh]
theorem zDg (f:List Node) (h:Int):dA f h≤f.length+1:=zGz f _ _
theorem zsx {f:List Node} {h:Int} (hr:zbf f) (hh:isN f h):dA f h=dA f (nx f h)+1:=by
 obtain⟨-,-,hl⟩:=zhs hr hh
 have hex:∃k,k<f.length+1∧¬isN f (itr f k h):=by
  refine Classical.byContradiction fun hno=>hl (zke fun k hk=> ?_)
  exact Classical.byContradiction fun h2=>hno ⟨k,hk,h2⟩
 obtain⟨k,hk,hn⟩:=hex
 rcases k with _|k
 ·exact absurd hh hn
 ·show(if isN f h then dp f f.length (nx f h)+1 else 0)=_
  rw[if_pos hh]
  unfold dA
  rw[zns f f.length (nx f h) k (by omega) hn]
theorem zGB {f:List Node} (hr:zbf f) {P:Int→Prop} (h0:∀h,¬isN f h→P h) (hs:∀h,isN f h→P (nx f h)→P h):∀h,P h:=by
 intro h
 generalize hm:dA f h=m
 induction m using Nat.strongRecOn generalizing h with
 |_ m ih=>
  by_cases hh:isN f h
  ·have:=zsx hr hh
   exact hs h hh (ih (dA f (nx f h)) (by omega) _ rfl)
  ·exact h0 h hh
theorem zcJ {f:List Node} (hr:zbf f) {P:Int→Prop} (h0:∀h,¬isN f h→P h) (hs:∀h,isN f h→P (par f h)→P h):∀h,P h:=by
 refine zGB hr h0 fun h hh hP=>hs h hh ?_
 by_cases e:par f h=0
 ·rw[e];exact h0 0 zbT
 ·rw[←(zdS hr e).2.2.2];exact hP
theorem zAi {f:List Node} (hr:zbf f) {P:Int→Prop} (hs:∀h,isN f h→(∀k,isN f k→nx f k=h→P k)→P h):∀h,isN f h→P h:=by
 intro h hh
 generalize hm:f.length+1-dA f h=m
 induction m using Nat.strongRecOn generalizing h with
 |_ m ih=>
  refine hs h hh fun k hk e=>ih _ ?_ k hk rfl
  have h1:=zsx hr hk
  have h2:=zDg f k
  rw[e]at h1
  omega
theorem zjn {f:List Node} (hr:zbf f) {P:Int→Prop} (hs:∀h,isN f h→(∀k∈kidsL f h,P k)→P h):∀h,isN f h→P h:=
 zAi hr fun h hh ih=>hs h hh fun k hk=>ih k (zev hr hk).2.1 (zev hr hk).2.2.2
def zwN (f:List Node):Nat→Int→List Int
 |0,_=>[]
 |n+1,h=>if isN f h then h::zwN f n (par f h)else[]
def anc (f:List Node) (h:Int):List Int:=zwN f (f.length+1) h
theorem zlt {f:List Node} {h:Int} (hh:¬isN f h):∀n,zwN f n h=[]
 |0=>rfl
 |n+1=>by unfold zwN;rw[if_neg hh]
theorem zAI {f:List Node} {h:Int} (hr:zbf f) (hh:isN f h):dA f (par f h)+1≤dA f h:=by
 have h1:=zsx hr hh
 by_cases e:par f h=0
 ·rw[e,zGA zbT];omega
 ·rw[(zdS hr e).2.2.2]at h1;omega
theorem zjo {f:List Node} (hr:zbf f):∀n h,dA f h≤n→zwN f (n+1) h=zwN f n h
 |0,h,hd=>by
  by_cases hh:isN f h
  ·have:=zsx hr hh;omega
  ·rw[zlt hh,zlt hh]
 |n+1,h,hd=>by
  show(if isN f h then h::zwN f (n+1) (par f h)else[])=(if isN f h then h::zwN f n (par f h)else[])
  by_cases hh:isN f h
  ·have:=zAI hr hh
   rw[if_pos hh,if_pos hh,zjo hr n _ (by omega)]
  ·rw[if_neg hh,if_neg hh]
theorem zcK {f:List Node} {h:Int} (hh:¬isN f h):anc f h=[]:=zlt hh _
theorem zcn {f:List Node} {h:Int} (hr:zbf f) (hh:isN f h):anc f h=h::anc f (par f h):=by
 show(if isN f h then h::zwN f f.length (par f h)else[])=_
 have h1:=zAI hr hh
 have h2:=zDg f h
 rw[if_pos hh]
 unfold anc
 rw[zjo hr f.length _ (by omega)]
theorem zlu (f:List Node) (h:Int):(anc f h).length≤f.length+1:=by
 have:∀n h,(zwN f n h).length≤n:=by
  intro n
  induction n with
  |zero=>intro h;exact Nat.le_refl _
  |succ n ih=>
   intro h
   unfold zwN
   split
   ·have:=ih (par f h);simp;omega
   ·simp
 exact this _ _
theorem zwO {f:List Node} (hr:zbf f) {k:Int}:∀b,k∈anc f b→isN f k∧isN f b:=by
 refine zcJ hr (fun h hh hk=>by rw[zcK hh]at hk;cases hk) fun h hh ih hk=> ?_
 rw[zcn hr hh]at hk
 rcases List.mem_cons.1 hk with rfl|hk
 ·exact⟨hh,hh⟩
 ·exact⟨(ih hk).1,hh⟩
theorem zlv {f:List Node} {h:Int} (hr:zbf f) (hh:isN f h):h∈anc f h:=by rw[zcn hr hh];exact List.mem_cons_self
theorem zGC {f:List Node} (hr:zbf f) {k:Int} (hp:par f k≠0):∀b,k∈anc f b→par f k∈anc f b:=by
 refine zcJ hr (fun h hh hk=>by rw[zcK hh]at hk;cases hk) fun h hh ih hk=> ?_
 rw[zcn hr hh]at hk⊢
 rcases List.mem_cons.1 hk with rfl|hk
 ·exact List.mem_cons_of_mem _ (zlv hr (zdS hr hp).2.1)
 ·exact List.mem_cons_of_mem _ (ih hk)
def root (f:List Node) (h:Int):Int:=(anc f h).getLast?.getD 0
theorem ziq {f:List Node} {h:Int} (hr:zbf f) (hh:isN f h) (hp:par f h=0):root f h=h:=by
 unfold root
 rw[zcn hr hh,hp,zcK zbT];rfl
theorem zir {f:List Node} {h:Int} (hr:zbf f) (hp:par f h≠0):root f h=root f (par f h):=by
 obtain⟨hh,h1,-,-⟩:=zdS hr hp
 unfold root
 rw[zcn hr hh,zcn hr h1,List.getLast?_cons_cons]
theorem zlw {f:List Node} (hr:zbf f):∀h,isN f h→root f h∈anc f h∧par f (root f h)=0∧isN f (root f h):=by
 refine zcJ hr (fun h hh hk=>absurd hk hh) fun h hh ih _=> ?_
 by_cases hp:par f h=0
 ·rw[ziq hr hh hp];exact⟨zlv hr hh,hp,hh⟩
 ·obtain⟨g1,g2,g3⟩:=ih (zdS hr hp).2.1
  rw[zir hr hp]
  exact⟨by rw[zcn hr hh];exact List.mem_cons_of_mem _ g1,g2,g3⟩
theorem zwP {f:List Node} (hr:zbf f) {r:Int} (hp:par f r=0):∀b,r∈anc f b→r=root f b:=by
 refine zcJ hr (fun h hh hk=>by rw[zcK hh]at hk;cases hk) fun h hh ih hk=> ?_
 rw[zcn hr hh]at hk
 by_cases hq:par f h=0
 ·rw[hq,zcK zbT]at hk
  rcases List.mem_cons.1 hk with rfl|hk
  ·exact(ziq hr hh hq).symm
  ·cases hk
 ·rcases List.mem_cons.1 hk with rfl|hk
  ·exact absurd hp hq
  ·rw[zir hr hq];exact ih hk
def zDh (f:List Node):Nat→Int→List Int
 |0,_=>[]
 |n+1,h=>h::(kidsL f h).flatMap (zDh f n)
def zgF (f:List Node) (h:Int):List Int:=zDh f (f.length+1) h
theorem zlx {α β:Type} {g1 g2:α→List β}:∀{l:List α},(∀a∈l,g1 a=g2 a)→l.flatMap g1=l.flatMap g2
 |[],_=>rfl
 |a::l,h=>by rw[List.flatMap_cons,List.flatMap_cons,h a List.mem_cons_self,zlx fun b hb=>h b (List.mem_cons_of_mem _ hb)]
theorem zAJ {f:List Node} {h k:Int} (hr:zbf f) (hk:k∈kidsL f h):dA f k=dA f h+1:=by
 obtain⟨_,h1,_,h3⟩:=zev hr hk
 rw[zsx hr h1,h3]
theorem zjp {f:List Node} (hr:zbf f):∀n h,f.length+2≤n+dA f h→zDh f (n+1) h=zDh f n h
 |0,h,hd=>by have:=zDg f h;omega
 |n+1,h,hd=>by
  show h::(kidsL f h).flatMap (zDh f (n+1))=h::(kidsL f h).flatMap (zDh f n)
  rw[zlx fun k hk=>zjp hr n k (by have:=zAJ hr hk;omega)]
theorem all_in {f:List Node} {h:Int} (hr:zbf f) (hh:isN f h):zgF f h=h::(kidsL f h).flatMap (zgF f):=by
 show h::(kidsL f h).flatMap (zDh f f.length)=_
 rw[zlx fun k hk=>(zjp hr f.length k (by have:=zAJ hr hk;have:=zsx hr hh;omega)).symm]
 rfl
theorem zDi {f:List Node} (hr:zbf f) {x:Int}:∀h,isN f h→x∈zgF f h→h∈anc f x:=by
 refine zjn hr fun h hh ih hx=> ?_
 rw[all_in hr hh]at hx
 rcases List.mem_cons.1 hx with rfl|hx
 ·exact zlv hr hh
 ·obtain⟨k,hk,hx⟩:=List.mem_flatMap.1 hx
  have h1:=ih k hk hx
  obtain⟨_,_,e,_⟩:=zev hr hk
  have:=zGC hr (show par f k≠0 by rw[e];exact fun e=>zbT (e▸hh)) _ h1
  rwa [e]at this
theorem zwQ {f:List Node} (hr:zbf f) {x k:Int} (hk:k∈kidsL f x):∀h,isN f h→x∈zgF f h→k∈zgF f h:=by
 refine zjn hr fun h hh ih hx=> ?_
 rw[all_in hr hh]at hx⊢
 rcases List.mem_cons.1 hx with rfl|hx
 ·refine List.mem_cons_of_mem _ (List.mem_flatMap.2 ⟨k,hk,?_⟩)
  rw[all_in hr (zev hr hk).2.1];exact List.mem_cons_self
 ·obtain⟨y,hy,hx⟩:=List.mem_flatMap.1 hx
  exact List.mem_cons_of_mem _ (List.mem_flatMap.2 ⟨y,hy,ih y hy hx⟩)
theorem zDj {f:List Node} (hr:zbf f) {h:Int}:∀b,h∈anc f b→b∈zgF f h:=by
 refine zcJ hr (fun b hb hk=>by rw[zcK hb]at hk;cases hk) fun b hb ih hk=> ?_
 have hh:=(zwO hr _ hk).1
 rw[zcn hr hb]at hk
 rcases List.mem_cons.1 hk with rfl|hk
 ·rw[all_in hr hh];exact List.mem_cons_self
 ·have hp:par f b≠0:=fun e=>by rw[e,zcK zbT]at hk;cases hk
  exact zwQ hr (zdS hr hp).2.2.1 h hh (ih hk)
theorem zoY {f:List Node} (hr:zbf f) {h b:Int} (hh:isN f h):b∈zgF f h↔h∈anc f b:=⟨zDi hr h hh,zDj hr b⟩
theorem mem_root {f:List Node} (hr:zbf f) {a b:Int} (ha:isN f a) (hb:isN f b):b∈zgF f (root f a)↔root f a=root f b:=by
 obtain⟨h1,h2,h3⟩:=zlw hr a ha
 rw[zoY hr h3]
 constructor
 ·exact zwP hr h2 b
 ·intro e;rw[e];exact(zlw hr b hb).1
end Go.Proofs.Ytfleilibjdgcjaa.O
