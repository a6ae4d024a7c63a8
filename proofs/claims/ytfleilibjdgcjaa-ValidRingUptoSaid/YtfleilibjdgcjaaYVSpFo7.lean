/- Shaken copy of a longer text: what one law needs. Its conditions: none. -/
import Derived.Test.YtfleilibjdgcjaaYVSpFo6
set_option linter.unusedSimpArgs false
set_option linter.unusedVariables false
set_option linter.unusedSimpArgs false
set_option linter.unusedVariables false
set_option linter.unusedSectionVars false
set_option linter.unnecessarySimpa false
namespace Go.Proofs.Ytfleilibjdgcjaa.V
open Go.AI
def par (f:List Node) (h:Int):Int:=(nodeD f h).parent
def kidsL (f:List Node) (h:Int):List Int:=(nodeD f h).kids.l
theorem zeQ {f:List Node} {h:Int} (hh:¬isN f h):nodeD f h=nd0:=by
 unfold nodeD
 rcases e:zcb f h with _|n
 ·rfl
 ·have:=zcc e;exact absurd ⟨this.1,this.2.1⟩ hh
theorem zDZ {f:List Node} {h:Int} (hh:¬isN f h):par f h=0:=by unfold par;rw[zeQ hh];rfl
theorem zAO {f:List Node} {h:Int} (hh:¬isN f h):kidsL f h=[]:=by unfold kidsL;rw[zeQ hh];rfl
theorem zcv {f:List Node}:¬isN f 0:=by unfold isN;omega
theorem zhT {f:List Node} {h:Int} (hr:zbK f) (hh:isN f h):zkn (nodeD f h)=true∧zfW f h (nodeD f h)=true∧¬zfN f h:=by
 unfold isN at hh
 obtain⟨n,hn⟩:=ziQ hh.1 hh.2
 obtain⟨h1,h2,h3⟩:=zcc hn
 have hk:(h-1).toNat<f.length:=by omega
 have:=hr.2 (h-1).toNat hk
 rw[List.getElem?_eq_getElem hk]at h3
 cases h3
 rw[show(((h-1).toNat:Nat):Int)+1=h by omega]at this
 unfold nodeD
 rw[hn];exact this
structure Lk (f:List Node) (h:Int):Prop where
 kids:∀y∈kidsL f h,isN f y∧par f y=h∧(nodeD f y).doc=(nodeD f h).doc
 nodup:(kidsL f h).Nodup
 par:par f h=0∨(isN f (par f h)∧h∈kidsL f (par f h))
 shadow:(nodeD f h).shadow=0∨(isN f (nodeD f h).shadow∧(nodeD f (nodeD f h).shadow).kind=12∧(nodeD f (nodeD f h).shadow).host=h)
 host:(nodeD f h).kind=12→isN f (nodeD f h).host∧(nodeD f (nodeD f h).host).kind=1∧(nodeD f (nodeD f h).host).shadow=h∧(nodeD f (nodeD f h).host).doc=(nodeD f h).doc
 doc:(nodeD f (nodeD f h).doc).kind=9
 own:(nodeD f h).kind=9→(nodeD f h).doc=h
 fam:famB f (nodeD f h).kind (kidsL f h)=true
theorem zdJ {f:List Node} {h:Int} (hr:zbK f) (hh:isN f h):Lk f h:=by
 obtain⟨-,hl,-⟩:=zhT hr hh
 unfold zfW at hl
 simp only[Bool.and_eq_true,Bool.or_eq_true,zex,decide_eq_true_eq,beq_iff_eq,List.all_eq_true,ziu,Bool.not_eq_true']at hl
 obtain⟨⟨⟨⟨⟨⟨⟨h1,h2⟩,h3⟩,h4⟩,h5⟩,h6⟩,h7⟩,h8⟩:=hl
 refine⟨fun y hy=>⟨(h1 y hy).1.1,(h1 y hy).1.2,(h1 y hy).2⟩,h2,?_,?_,?_,h4,?_,h8⟩
 ·rcases h3 with e|⟨e1,e2⟩
  ·exact .inl e
  ·right
   refine⟨e1,?_⟩
   unfold kidsL par
   have:0<(nodeD f (nodeD f h).parent).kids.l.count h:=by omega
   exact List.count_pos_iff.1 this
 ·rcases h6 with e|⟨⟨e1,e2⟩,e3⟩
  ·exact .inl e
  ·exact .inr ⟨e1,e2,e3⟩
 ·intro e
  rcases h7 with e1|⟨⟨⟨e1,e2⟩,e3⟩,e4⟩
  ·rw[e]at e1;simp at e1
  ·exact⟨e1,e2,e3,e4⟩
 ·intro e
  rcases h5 with e1|e1
  ·rw[e]at e1;simp at e1
  ·exact e1
theorem zqT {f:List Node} {h:Int} (hr:zbK f) (hh:isN f h) (hk:(nodeD f h).kind=12):par f h=0:=by
 obtain⟨hm,-,-⟩:=zhT hr hh
 unfold zkn at hm
 simp only[Bool.and_eq_true]at hm
 have:=hm.1.2
 rw[hk]at this
 simpa[zhQ,par]using this
theorem zBo {f:List Node} {h:Int} (hr:zbK f) (hp:par f h≠0):isN f h∧isN f (par f h)∧h∈kidsL f (par f h)∧nx f h=par f h:=by
 have hh:isN f h:=Classical.byContradiction fun hno=>hp (zDZ hno)
 obtain⟨h1,h2⟩:=(zdJ hr hh).par.resolve_left hp
 refine⟨hh,h1,h2,?_⟩
 unfold nx zeO
 by_cases e:(nodeD f h).kind=12
 ·exact absurd (zqT hr hh e) hp
 ·rw[if_neg (by simpa using e)];rfl
theorem zmc {f:List Node} {h y:Int} (hr:zbK f) (hh:isN f h):y∈kidsL f h↔isN f y∧par f y=h:=by
 constructor
 ·intro hy
  have:=(zdJ hr hh).kids y hy
  exact⟨this.1,this.2.1⟩
 ·rintro⟨hy,rfl⟩
  exact(zBo hr (fun e=>zcv (e▸hh))).2.2.1
theorem zcy {f:List Node} {h y:Int} (hr:zbK f) (hy:y∈kidsL f h):isN f h∧isN f y∧par f y=h∧nx f y=h:=by
 have hh:isN f h:=Classical.byContradiction fun hno=>by rw[zAO hno]at hy;cases hy
 obtain⟨h1,h2⟩:=(zmc hr hh).1 hy
 have:=zBo hr (show par f y≠0 by rw[h2];exact fun e=>zcv (e▸hh))
 exact⟨hh,h1,h2,by rw[this.2.2.2,h2]⟩
def dp (f:List Node):Nat→Int→Nat
 |0,_=>0
 |n+1,h=>if isN f h then dp f n (nx f h)+1 else 0
def dA (f:List Node) (h:Int):Nat:=dp f (f.length+1) h
theorem zHl (f:List Node):∀n h,dp f n h≤n
 |0,_=>Nat.le_refl _
 |n+1,h=>by
  unfold dp
  split
  ·have:=zHl f n (nx f h);omega
  ·omega
theorem znY (f:List Node):∀n x k,k≤n→¬isN f (itr f k x)→dp f (n+1) x=dp f n x
 |0,x,k,hk,hn=>by
  obtain rfl:k=0:=by omega
  exact if_neg hn
 |n+1,x,k,hk,hn=>by
  show(if isN f x then dp f (n+1) (nx f x)+1 else 0)=(if isN f x then dp f n (nx f x)+1 else 0)
  by_cases hx:isN f x
  ·rcases k with _|k
   ·exact absurd hx hn
   ·rw[if_pos hx,if_pos hx,znY f n (nx f x) k (by omega) hn]
  ·rw[if_neg hx,if_neg hx]
theorem zEa (f:List Node) (h:Int):dA f h≤f.length+1:=zHl f _ _
theorem zfO {f:List Node} {h:Int} (hr:zbK f) (hh:isN f h):dA f h=dA f (nx f h)+1:=by
 obtain⟨-,-,hl⟩:=zhT hr hh
 have hex:∃k,k<f.length+1∧¬isN f (itr f k h):=by
  refine Classical.byContradiction fun hno=>hl (zkS fun k hk=> ?_)
  exact Classical.byContradiction fun h2=>hno ⟨k,hk,h2⟩
 obtain⟨k,hk,hn⟩:=hex
 rcases k with _|k
 ·exact absurd hh hn
 ·show(if isN f h then dp f f.length (nx f h)+1 else 0)=_
  rw[if_pos hh]
  unfold dA
  rw[znY f f.length (nx f h) k (by omega) hn]
theorem zil {f:List Node} (hr:zbK f) {P:Int→Prop} (h0:∀h,¬isN f h→P h) (hs:∀h,isN f h→P (nx f h)→P h):∀h,P h:=by
 intro h
 generalize hm:dA f h=m
 induction m using Nat.strongRecOn generalizing h with
 |_ m ih=>
  by_cases hh:isN f h
  ·have:=zfO hr hh
   exact hs h hh (ih (dA f (nx f h)) (by omega) _ rfl)
  ·exact h0 h hh
theorem ziR {f:List Node} (hr:zbK f) {P:Int→Prop} (hs:∀h,isN f h→(∀k,isN f k→nx f k=h→P k)→P h):∀h,isN f h→P h:=by
 intro h hh
 generalize hm:f.length+1-dA f h=m
 induction m using Nat.strongRecOn generalizing h with
 |_ m ih=>
  refine hs h hh fun k hk e=>ih _ ?_ k hk rfl
  have h1:=zfO hr hk
  have h2:=zEa f k
  rw[e]at h1
  omega
def zLV (f:List Node):Nat→Int→List Int
 |0,_=>[]
 |n+1,h=>if isN f h then h::zLV f n (par f h)else[]
def anc (f:List Node) (h:Int):List Int:=zLV f (f.length+1) h
theorem zmd {α β:Type} {g1 g2:α→List β}:∀{l:List α},(∀a∈l,g1 a=g2 a)→l.flatMap g1=l.flatMap g2
 |[],_=>rfl
 |a::l,h=>by rw[List.flatMap_cons,List.flatMap_cons,h a List.mem_cons_self,zmd fun b hb=>h b (List.mem_cons_of_mem _ hb)]
theorem zBp {f:List Node} {h k:Int} (hr:zbK f) (hk:k∈kidsL f h):dA f k=dA f h+1:=by
 obtain⟨_,h1,_,h3⟩:=zcy hr hk
 rw[zfO hr h1,h3]
end Go.Proofs.Ytfleilibjdgcjaa.V
