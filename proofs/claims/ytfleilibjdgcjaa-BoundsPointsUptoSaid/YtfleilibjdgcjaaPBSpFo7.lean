/- Shaken copy of a longer text: what one law needs. Its conditions: none. -/
import Derived.Test.YtfleilibjdgcjaaPBSpFo6
set_option linter.unusedSimpArgs false
set_option linter.unusedVariables false
set_option linter.unusedSimpArgs false
set_option linter.unusedVariables false
set_option linter.unusedSectionVars false
set_option linter.unnecessarySimpa false
namespace Go.Proofs.Ytfleilibjdgcjaa.B
open Go.AI
def par (f:List Node) (h:Int):Int:=(nodeD f h).parent
def kidsL (f:List Node) (h:Int):List Int:=(nodeD f h).kids.l
theorem zht {f:List Node} {h:Int} (hh:¬isN f h):nodeD f h=nd0:=by
 unfold nodeD
 rcases e:zbG f h with _|n
 ·rfl
 ·have:=zcr e;exact absurd ⟨this.1,this.2.1⟩ hh
theorem zGg {f:List Node} {h:Int} (hh:¬isN f h):par f h=0:=by unfold par;rw[zht hh];rfl
theorem zCI {f:List Node} {h:Int} (hh:¬isN f h):kidsL f h=[]:=by unfold kidsL;rw[zht hh];rfl
theorem zdg {f:List Node}:¬isN f 0:=by unfold isN;omega
theorem zew {f:List Node} {h:Int} (hr:zaQ f) (hh:isN f h):ziL (nodeD f h)=true∧zet f h (nodeD f h)=true∧¬zeP f h:=by
 unfold isN at hh
 obtain⟨n,hn⟩:=zjh hh.1 hh.2
 obtain⟨h1,h2,h3⟩:=zcr hn
 have hk:(h-1).toNat<f.length:=by omega
 have:=hr.2 (h-1).toNat hk
 rw[List.getElem?_eq_getElem hk]at h3
 cases h3
 rw[show(((h-1).toNat:Nat):Int)+1=h by omega]at this
 unfold nodeD
 rw[hn];exact this
structure Lk (f:List Node) (h:Int):Prop where
 kids:∀y∈kidsL f h,isN f y∧par f y=h∧(nodeD f y).doc=(nodeD f h).doc
 nodup:(kidsL f h).Nodup
 par:par f h=0∨(isN f (par f h)∧h∈kidsL f (par f h))
 shadow:(nodeD f h).shadow=0∨(isN f (nodeD f h).shadow∧(nodeD f (nodeD f h).shadow).kind=12∧(nodeD f (nodeD f h).shadow).host=h)
 host:(nodeD f h).kind=12→isN f (nodeD f h).host∧(nodeD f (nodeD f h).host).kind=1∧(nodeD f (nodeD f h).host).shadow=h∧(nodeD f (nodeD f h).host).doc=(nodeD f h).doc
 doc:(nodeD f (nodeD f h).doc).kind=9
 own:(nodeD f h).kind=9→(nodeD f h).doc=h
 fam:famB f (nodeD f h).kind (kidsL f h)=true
theorem zmG {f:List Node} {h:Int} (hr:zaQ f) (hh:isN f h):Lk f h:=by
 obtain⟨-,hl,-⟩:=zew hr hh
 unfold zet at hl
 simp only[Bool.and_eq_true,Bool.or_eq_true,zjk,decide_eq_true_eq,beq_iff_eq,List.all_eq_true,zgK,Bool.not_eq_true']at hl
 obtain⟨⟨⟨⟨⟨⟨⟨h1,h2⟩,h3⟩,h4⟩,h5⟩,h6⟩,h7⟩,h8⟩:=hl
 refine⟨fun y hy=>⟨(h1 y hy).1.1,(h1 y hy).1.2,(h1 y hy).2⟩,h2,?_,?_,?_,h4,?_,h8⟩
 ·rcases h3 with e|⟨e1,e2⟩
  ·exact .inl e
  ·right
   refine⟨e1,?_⟩
   unfold kidsL par
   have:0<(nodeD f (nodeD f h).parent).kids.l.count h:=by omega
   exact List.count_pos_iff.1 this
 ·rcases h6 with e|⟨⟨e1,e2⟩,e3⟩
  ·exact .inl e
  ·exact .inr ⟨e1,e2,e3⟩
 ·intro e
  rcases h7 with e1|⟨⟨⟨e1,e2⟩,e3⟩,e4⟩
  ·rw[e]at e1;simp at e1
  ·exact⟨e1,e2,e3,e4⟩
 ·intro e
  rcases h5 with e1|e1
  ·rw[e]at e1;simp at e1
  ·exact e1
theorem zCJ {f:List Node} {h:Int} (hr:zaQ f) (hh:isN f h) (hk:(nodeD f h).kind=12):par f h=0:=by
 obtain⟨hm,-,-⟩:=zew hr hh
 unfold ziL at hm
 simp only[Bool.and_eq_true]at hm
 have:=hm.1.2
 rw[hk]at this
 simpa[zcc,par]using this
theorem zeT {f:List Node} {h:Int} (hr:zaQ f) (hp:par f h≠0):isN f h∧isN f (par f h)∧h∈kidsL f (par f h)∧nx f h=par f h:=by
 have hh:isN f h:=Classical.byContradiction fun hno=>hp (zGg hno)
 obtain⟨h1,h2⟩:=(zmG hr hh).par.resolve_left hp
 refine⟨hh,h1,h2,?_⟩
 unfold nx zkn
 by_cases e:(nodeD f h).kind=12
 ·exact absurd (zCJ hr hh e) hp
 ·rw[if_neg (by simpa using e)];rfl
theorem zGh {f:List Node} {h y:Int} (hr:zaQ f) (hh:isN f h):y∈kidsL f h↔isN f y∧par f y=h:=by
 constructor
 ·intro hy
  have:=(zmG hr hh).kids y hy
  exact⟨this.1,this.2.1⟩
 ·rintro⟨hy,rfl⟩
  exact(zeT hr (fun e=>zdg (e▸hh))).2.2.1
theorem zcW {f:List Node} {h y:Int} (hr:zaQ f) (hy:y∈kidsL f h):isN f h∧isN f y∧par f y=h∧nx f y=h:=by
 have hh:isN f h:=Classical.byContradiction fun hno=>by rw[zCI hno]at hy;cases hy
 obtain⟨h1,h2⟩:=(zGh hr hh).1 hy
 have:=zeT hr (show par f y≠0 by rw[h2];exact fun e=>zdg (e▸hh))
 exact⟨hh,h1,h2,by rw[this.2.2.2,h2]⟩
def dp (f:List Node):Nat→Int→Nat
 |0,_=>0
 |n+1,h=>if isN f h then dp f n (nx f h)+1 else 0
def dA (f:List Node) (h:Int):Nat:=dp f (f.length+1) h
theorem zJx (f:List Node):∀n h,dp f n h≤n
 |0,_=>Nat.le_refl _
 |n+1,h=>by
  unfold dp
  split
  ·have:=zJx f n (nx f h);omega
  ·omega
theorem zoP (f:List Node):∀n x k,k≤n→¬isN f (itr f k x)→dp f (n+1) x=dp f n x
 |0,x,k,hk,hn=>by
  obtain rfl:k=0:=by omega
  exact if_neg hn
 |n+1,x,k,hk,hn=>by
  show(if isN f x then dp f (n+1) (nx f x)+1 else 0)=(if isN f x then dp f n (nx f x)+1 else 0)
  by_cases hx:isN f x
  ·rcases k with _|k
   ·exact absurd hx hn
   ·rw[if_pos hx,if_pos hx,zoP f n (nx f x) k (by omega) hn]
  ·rw[if_neg hx,if_neg hx]
theorem zJy {f:List Node} {h:Int} (hh:¬isN f h):dA f h=0:=by
 show(if isN f h then _ else 0)=0
 rw[if_neg hh]
theorem zCK (f:List Node) (h:Int):dA f h≤f.length+1:=zJx f _ _
theorem zqB {f:List Node} {h:Int} (hr:zaQ f) (hh:isN f h):dA f h=dA f (nx f h)+1:=by
 obtain⟨-,-,hl⟩:=zew hr hh
 have hex:∃k,k<f.length+1∧¬isN f (itr f k h):=by
  refine Classical.byContradiction fun hno=>hl (zlu fun k hk=> ?_)
  exact Classical.byContradiction fun h2=>hno ⟨k,hk,h2⟩
 obtain⟨k,hk,hn⟩:=hex
 rcases k with _|k
 ·exact absurd hh hn
 ·show(if isN f h then dp f f.length (nx f h)+1 else 0)=_
  rw[if_pos hh]
  unfold dA
  rw[zoP f f.length (nx f h) k (by omega) hn]
theorem zJz {f:List Node} (hr:zaQ f) {P:Int→Prop} (h0:∀h,¬isN f h→P h) (hs:∀h,isN f h→P (nx f h)→P h):∀h,P h:=by
 intro h
 generalize hm:dA f h=m
 induction m using Nat.strongRecOn generalizing h with
 |_ m ih=>
  by_cases hh:isN f h
  ·have:=zqB hr hh
   exact hs h hh (ih (dA f (nx f h)) (by omega) _ rfl)
  ·exact h0 h hh
theorem zee {f:List Node} (hr:zaQ f) {P:Int→Prop} (h0:∀h,¬isN f h→P h) (hs:∀h,isN f h→P (par f h)→P h):∀h,P h:=by
 refine zJz hr h0 fun h hh hP=>hs h hh ?_
 by_cases e:par f h=0
 ·rw[e];exact h0 0 zdg
 ·rw[←(zeT hr e).2.2.2];exact hP
theorem zCL {f:List Node} (hr:zaQ f) {P:Int→Prop} (hs:∀h,isN f h→(∀k,isN f k→nx f k=h→P k)→P h):∀h,isN f h→P h:=by
 intro h hh
 generalize hm:f.length+1-dA f h=m
 induction m using Nat.strongRecOn generalizing h with
 |_ m ih=>
  refine hs h hh fun k hk e=>ih _ ?_ k hk rfl
  have h1:=zqB hr hk
  have h2:=zCK f k
  rw[e]at h1
  omega
theorem zef {f:List Node} (hr:zaQ f) {P:Int→Prop} (hs:∀h,isN f h→(∀k∈kidsL f h,P k)→P h):∀h,isN f h→P h:=
 zCL hr fun h hh ih=>hs h hh fun k hk=>ih k (zcW hr hk).2.1 (zcW hr hk).2.2.2
def zuR (f:List Node):Nat→Int→List Int
 |0,_=>[]
 |n+1,h=>if isN f h then h::zuR f n (par f h)else[]
def anc (f:List Node) (h:Int):List Int:=zuR f (f.length+1) h
theorem zmH {f:List Node} {h:Int} (hh:¬isN f h):∀n,zuR f n h=[]
 |0=>rfl
 |n+1=>by unfold zuR;rw[if_neg hh]
theorem zDv {f:List Node} {h:Int} (hr:zaQ f) (hh:isN f h):dA f (par f h)+1≤dA f h:=by
 have h1:=zqB hr hh
 by_cases e:par f h=0
 ·rw[e,zJy zdg];omega
 ·rw[(zeT hr e).2.2.2]at h1;omega
theorem zkw {f:List Node} (hr:zaQ f):∀n h,dA f h≤n→zuR f (n+1) h=zuR f n h
 |0,h,hd=>by
  by_cases hh:isN f h
  ·have:=zqB hr hh;omega
  ·rw[zmH hh,zmH hh]
 |n+1,h,hd=>by
  show(if isN f h then h::zuR f (n+1) (par f h)else[])=(if isN f h then h::zuR f n (par f h)else[])
  by_cases hh:isN f h
  ·have:=zDv hr hh
   rw[if_pos hh,if_pos hh,zkw hr n _ (by omega)]
  ·rw[if_neg hh,if_neg hh]
theorem zdK {f:List Node} {h:Int} (hh:¬isN f h):anc f h=[]:=zmH hh _
theorem zdW {f:List Node} {h:Int} (hr:zaQ f) (hh:isN f h):anc f h=h::anc f (par f h):=by
 show(if isN f h then h::zuR f f.length (par f h)else[])=_
 have h1:=zDv hr hh
 have h2:=zCK f h
 rw[if_pos hh]
 unfold anc
 rw[zkw hr f.length _ (by omega)]
theorem zmI {f:List Node} (hr:zaQ f) {k:Int}:∀b,k∈anc f b→isN f k∧isN f b:=by
 refine zee hr (fun h hh hk=>by rw[zdK hh]at hk;cases hk) fun h hh ih hk=> ?_
 rw[zdW hr hh]at hk
 rcases List.mem_cons.1 hk with rfl|hk
 ·exact⟨hh,hh⟩
 ·exact⟨(ih hk).1,hh⟩
theorem zeQ {f:List Node} {h:Int} (hr:zaQ f) (hh:isN f h):h∈anc f h:=by rw[zdW hr hh];exact List.mem_cons_self
theorem zDw {f:List Node} (hr:zaQ f) {k:Int} (hp:par f k≠0):∀b,k∈anc f b→par f k∈anc f b:=by
 refine zee hr (fun h hh hk=>by rw[zdK hh]at hk;cases hk) fun h hh ih hk=> ?_
 rw[zdW hr hh]at hk⊢
 rcases List.mem_cons.1 hk with rfl|hk
 ·exact List.mem_cons_of_mem _ (zeQ hr (zeT hr hp).2.1)
 ·exact List.mem_cons_of_mem _ (ih hk)
theorem zzb {f:List Node} (hr:zaQ f) {a b:Int} (hab:a∈anc f b):∀c,b∈anc f c→a∈anc f c:=by
 refine zee hr (fun h hh hk=>by rw[zdK hh]at hk;cases hk) fun h hh ih hk=> ?_
 rw[zdW hr hh]at hk
 rcases List.mem_cons.1 hk with rfl|hk
 ·exact hab
 ·rw[zdW hr hh];exact List.mem_cons_of_mem _ (ih hk)
def root (f:List Node) (h:Int):Int:=(anc f h).getLast?.getD 0
theorem zjl {f:List Node} {h:Int} (hr:zaQ f) (hh:isN f h) (hp:par f h=0):root f h=h:=by
 unfold root
 rw[zdW hr hh,hp,zdK zdg];rfl
theorem zjm {f:List Node} {h:Int} (hr:zaQ f) (hp:par f h≠0):root f h=root f (par f h):=by
 obtain⟨hh,h1,-,-⟩:=zeT hr hp
 unfold root
 rw[zdW hr hh,zdW hr h1,List.getLast?_cons_cons]
theorem zdh {f:List Node} (hr:zaQ f):∀h,isN f h→root f h∈anc f h∧par f (root f h)=0∧isN f (root f h):=by
 refine zee hr (fun h hh hk=>absurd hk hh) fun h hh ih _=> ?_
 by_cases hp:par f h=0
 ·rw[zjl hr hh hp];exact⟨zeQ hr hh,hp,hh⟩
 ·obtain⟨g1,g2,g3⟩:=ih (zeT hr hp).2.1
  rw[zjm hr hp]
  exact⟨by rw[zdW hr hh];exact List.mem_cons_of_mem _ g1,g2,g3⟩
theorem zoQ {f:List Node} (hr:zaQ f) {r:Int} (hp:par f r=0):∀b,r∈anc f b→r=root f b:=by
 refine zee hr (fun h hh hk=>by rw[zdK hh]at hk;cases hk) fun h hh ih hk=> ?_
 rw[zdW hr hh]at hk
 by_cases hq:par f h=0
 ·rw[hq,zdK zdg]at hk
  rcases List.mem_cons.1 hk with rfl|hk
  ·exact(zjl hr hh hq).symm
  ·cases hk
 ·rcases List.mem_cons.1 hk with rfl|hk
  ·exact absurd hp hq
  ·rw[zjm hr hq];exact ih hk
def zGi (f:List Node):Nat→Int→List Int
 |0,_=>[]
 |n+1,h=>h::(kidsL f h).flatMap (zGi f n)
def zii (f:List Node) (h:Int):List Int:=zGi f (f.length+1) h
theorem zhu {α β:Type} {g1 g2:α→List β}:∀{l:List α},(∀a∈l,g1 a=g2 a)→l.flatMap g1=l.flatMap g2
 |[],_=>rfl
 |a::l,h=>by rw[List.flatMap_cons,List.flatMap_cons,h a List.mem_cons_self,zhu fun b hb=>h b (List.mem_cons_of_mem _ hb)]
theorem zsk {f:List Node} {h k:Int} (hr:zaQ f) (hk:k∈kidsL f h):dA f k=dA f h+1:=by
 obtain⟨_,h1,_,h3⟩:=zcW hr hk
 rw[zqB hr h1,h3]
theorem zkx {f:List Node} (hr:zaQ f):∀n h,f.length+2≤n+dA f h→zGi f (n+1) h=zGi f n h
 |0,h,hd=>by have:=zCK f h;omega
 |n+1,h,hd=>by
  show h::(kidsL f h).flatMap (zGi f (n+1))=h::(kidsL f h).flatMap (zGi f n)
  rw[zhu fun k hk=>zkx hr n k (by have:=zsk hr hk;omega)]
theorem all_in {f:List Node} {h:Int} (hr:zaQ f) (hh:isN f h):zii f h=h::(kidsL f h).flatMap (zii f):=by
 show h::(kidsL f h).flatMap (zGi f f.length)=_
 rw[zhu fun k hk=>(zkx hr f.length k (by have:=zsk hr hk;have:=zqB hr hh;omega)).symm]
 rfl
theorem zzc {f:List Node} (hr:zaQ f) {x:Int}:∀h,isN f h→x∈zii f h→h∈anc f x:=by
 refine zef hr fun h hh ih hx=> ?_
 rw[all_in hr hh]at hx
 rcases List.mem_cons.1 hx with rfl|hx
 ·exact zeQ hr hh
 ·obtain⟨k,hk,hx⟩:=List.mem_flatMap.1 hx
  have h1:=ih k hk hx
  obtain⟨_,_,e,_⟩:=zcW hr hk
  have:=zDw hr (show par f k≠0 by rw[e];exact fun e=>zdg (e▸hh)) _ h1
  rwa [e]at this
theorem zzd {f:List Node} (hr:zaQ f) {x k:Int} (hk:k∈kidsL f x):∀h,isN f h→x∈zii f h→k∈zii f h:=by
 refine zef hr fun h hh ih hx=> ?_
 rw[all_in hr hh]at hx⊢
 rcases List.mem_cons.1 hx with rfl|hx
 ·refine List.mem_cons_of_mem _ (List.mem_flatMap.2 ⟨k,hk,?_⟩)
  rw[all_in hr (zcW hr hk).2.1];exact List.mem_cons_self
 ·obtain⟨y,hy,hx⟩:=List.mem_flatMap.1 hx
  exact List.mem_cons_of_mem _ (List.mem_flatMap.2 ⟨y,hy,ih y hy hx⟩)
theorem zky {f:List Node} (hr:zaQ f) {h:Int}:∀b,h∈anc f b→b∈zii f h:=by
 refine zee hr (fun b hb hk=>by rw[zdK hb]at hk;cases hk) fun b hb ih hk=> ?_
 have hh:=(zmI hr _ hk).1
 rw[zdW hr hb]at hk
 rcases List.mem_cons.1 hk with rfl|hk
 ·rw[all_in hr hh];exact List.mem_cons_self
 ·have hp:par f b≠0:=fun e=>by rw[e,zdK zdg]at hk;cases hk
  exact zzd hr (zeT hr hp).2.2.1 h hh (ih hk)
theorem zze {f:List Node} (hr:zaQ f) {h b:Int} (hh:isN f h):b∈zii f h↔h∈anc f b:=⟨zzc hr h hh,zky hr b⟩
theorem mem_root {f:List Node} (hr:zaQ f) {a b:Int} (ha:isN f a) (hb:isN f b):b∈zii f (root f a)↔root f a=root f b:=by
 obtain⟨h1,h2,h3⟩:=zdh hr a ha
 rw[zze hr h3]
 constructor
 ·exact zoQ hr h2 b
 ·intro e;rw[e];exact(zdh hr b hb).1
end Go.Proofs.Ytfleilibjdgcjaa.B
