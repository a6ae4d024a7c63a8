/- Shaken copy of a longer text: what one law needs. Its conditions: none. -/
import Derived.Test.YthodcjjgimeeoaaYPSpFo6
set_option linter.unusedSimpArgs false
set_option linter.unusedVariables false
set_option linter.unusedSimpArgs false
set_option linter.unusedVariables false
set_option linter.unusedSectionVars false
set_option linter.unnecessarySimpa false
namespace Go.Proofs.Ythodcjjgimeeoaa.P
open Go.AI
def par (f:List Node) (h:Int):Int:=(nodeD f h).parent
def kidsL (f:List Node) (h:Int):List Int:=(nodeD f h).kids.l
theorem zno {f:List Node} {h:Int} (hh:¬isN f h):nodeD f h=nd0:=by
 unfold nodeD
 rcases e:zbY f h with _|n
 ·rfl
 ·have:=zck e;exact absurd ⟨this.1,this.2.1⟩ hh
theorem zDz {f:List Node} {h:Int} (hh:¬isN f h):par f h=0:=by unfold par;rw[zno hh];rfl
theorem zgE {f:List Node}:¬isN f 0:=by unfold isN;omega
theorem zhk {f:List Node} {h:Int} (hr:zcE f) (hh:isN f h):zjH (nodeD f h)=true∧zfA f h (nodeD f h)=true∧¬zfu f h:=by
 unfold isN at hh
 obtain⟨n,hn⟩:=ziv hh.1 hh.2
 obtain⟨h1,h2,h3⟩:=zck hn
 have hk:(h-1).toNat<f.length:=by omega
 have:=hr.2 (h-1).toNat hk
 rw[List.getElem?_eq_getElem hk]at h3
 cases h3
 rw[show(((h-1).toNat:Nat):Int)+1=h by omega]at this
 unfold nodeD
 rw[hn];exact this
structure Lk (f:List Node) (h:Int):Prop where
 kids:∀y∈kidsL f h,isN f y∧par f y=h∧(nodeD f y).doc=(nodeD f h).doc
 nodup:(kidsL f h).Nodup
 par:par f h=0∨(isN f (par f h)∧h∈kidsL f (par f h))
 shadow:(nodeD f h).shadow=0∨(isN f (nodeD f h).shadow∧(nodeD f (nodeD f h).shadow).kind=12∧(nodeD f (nodeD f h).shadow).host=h)
 host:(nodeD f h).kind=12→isN f (nodeD f h).host∧(nodeD f (nodeD f h).host).kind=1∧(nodeD f (nodeD f h).host).shadow=h∧(nodeD f (nodeD f h).host).doc=(nodeD f h).doc
 doc:(nodeD f (nodeD f h).doc).kind=9
 own:(nodeD f h).kind=9→(nodeD f h).doc=h
 fam:famB f (nodeD f h).kind (kidsL f h)=true
theorem zlp {f:List Node} {h:Int} (hr:zcE f) (hh:isN f h):Lk f h:=by
 obtain⟨-,hl,-⟩:=zhk hr hh
 unfold zfA at hl
 simp only[Bool.and_eq_true,Bool.or_eq_true,zlo,decide_eq_true_eq,beq_iff_eq,List.all_eq_true,zhW,Bool.not_eq_true']at hl
 obtain⟨⟨⟨⟨⟨⟨⟨h1,h2⟩,h3⟩,h4⟩,h5⟩,h6⟩,h7⟩,h8⟩:=hl
 refine⟨fun y hy=>⟨(h1 y hy).1.1,(h1 y hy).1.2,(h1 y hy).2⟩,h2,?_,?_,?_,h4,?_,h8⟩
 ·rcases h3 with e|⟨e1,e2⟩
  ·exact .inl e
  ·right
   refine⟨e1,?_⟩
   unfold kidsL par
   have:0<(nodeD f (nodeD f h).parent).kids.l.count h:=by omega
   exact List.count_pos_iff.1 this
 ·rcases h6 with e|⟨⟨e1,e2⟩,e3⟩
  ·exact .inl e
  ·exact .inr ⟨e1,e2,e3⟩
 ·intro e
  rcases h7 with e1|⟨⟨⟨e1,e2⟩,e3⟩,e4⟩
  ·rw[e]at e1;simp at e1
  ·exact⟨e1,e2,e3,e4⟩
 ·intro e
  rcases h5 with e1|e1
  ·rw[e]at e1;simp at e1
  ·exact e1
theorem zAv {f:List Node} {h:Int} (hr:zcE f) (hh:isN f h) (hk:(nodeD f h).kind=12):par f h=0:=by
 obtain⟨hm,-,-⟩:=zhk hr hh
 unfold zjH at hm
 simp only[Bool.and_eq_true]at hm
 have:=hm.1.2
 rw[hk]at this
 simpa[zhg,par]using this
theorem zjs {f:List Node} {h:Int} (hr:zcE f) (hp:par f h≠0):isN f h∧isN f (par f h)∧h∈kidsL f (par f h)∧nx f h=par f h:=by
 have hh:isN f h:=Classical.byContradiction fun hno=>hp (zDz hno)
 obtain⟨h1,h2⟩:=(zlp hr hh).par.resolve_left hp
 refine⟨hh,h1,h2,?_⟩
 unfold nx zjl
 by_cases e:(nodeD f h).kind=12
 ·exact absurd (zAv hr hh e) hp
 ·rw[if_neg (by simpa using e)];rfl
theorem zDA {f:List Node} {h y:Int} (hr:zcE f) (hh:isN f h):y∈kidsL f h↔isN f y∧par f y=h:=by
 constructor
 ·intro hy
  have:=(zlp hr hh).kids y hy
  exact⟨this.1,this.2.1⟩
 ·rintro⟨hy,rfl⟩
  exact(zjs hr (fun e=>zgE (e▸hh))).2.2.1
def dp (f:List Node):Nat→Int→Nat
 |0,_=>0
 |n+1,h=>if isN f h then dp f n (nx f h)+1 else 0
def dA (f:List Node) (h:Int):Nat:=dp f (f.length+1) h
theorem zGA (f:List Node):∀n h,dp f n h≤n
 |0,_=>Nat.le_refl _
 |n+1,h=>by
  unfold dp
  split
  ·have:=zGA f n (nx f h);omega
  ·omega
theorem znp (f:List Node):∀n x k,k≤n→¬isN f (itr f k x)→dp f (n+1) x=dp f n x
 |0,x,k,hk,hn=>by
  obtain rfl:k=0:=by omega
  exact if_neg hn
 |n+1,x,k,hk,hn=>by
  show(if isN f x then dp f (n+1) (nx f x)+1 else 0)=(if isN f x then dp f n (nx f x)+1 else 0)
  by_cases hx:isN f x
  ·rcases k with _|k
   ·exact absurd hx hn
   ·rw[if_pos hx,if_pos hx,znp f n (nx f x) k (by omega) hn]
  ·rw[if_neg hx,if_neg hx]
theorem zGB {f:List Node} {h:Int} (hh:¬isN f h):dA f h=0:=by
 show(if isN f h then _ else 0)=0
 rw[if_neg hh]
theorem zJT (f:List Node) (h:Int):dA f h≤f.length+1:=zGA f _ _
theorem zDB {f:List Node} {h:Int} (hr:zcE f) (hh:isN f h):dA f h=dA f (nx f h)+1:=by
 obtain⟨-,-,hl⟩:=zhk hr hh
 have hex:∃k,k<f.length+1∧¬isN f (itr f k h):=by
  refine Classical.byContradiction fun hno=>hl (zkm fun k hk=> ?_)
  exact Classical.byContradiction fun h2=>hno ⟨k,hk,h2⟩
 obtain⟨k,hk,hn⟩:=hex
 rcases k with _|k
 ·exact absurd hh hn
 ·show(if isN f h then dp f f.length (nx f h)+1 else 0)=_
  rw[if_pos hh]
  unfold dA
  rw[znp f f.length (nx f h) k (by omega) hn]
theorem zGC {f:List Node} (hr:zcE f) {P:Int→Prop} (h0:∀h,¬isN f h→P h) (hs:∀h,isN f h→P (nx f h)→P h):∀h,P h:=by
 intro h
 generalize hm:dA f h=m
 induction m using Nat.strongRecOn generalizing h with
 |_ m ih=>
  by_cases hh:isN f h
  ·have:=zDB hr hh
   exact hs h hh (ih (dA f (nx f h)) (by omega) _ rfl)
  ·exact h0 h hh
theorem zoU {f:List Node} (hr:zcE f) {P:Int→Prop} (h0:∀h,¬isN f h→P h) (hs:∀h,isN f h→P (par f h)→P h):∀h,P h:=by
 refine zGC hr h0 fun h hh hP=>hs h hh ?_
 by_cases e:par f h=0
 ·rw[e];exact h0 0 zgE
 ·rw[←(zjs hr e).2.2.2];exact hP
def zAw (f:List Node):Nat→Int→List Int
 |0,_=>[]
 |n+1,h=>if isN f h then h::zAw f n (par f h)else[]
def anc (f:List Node) (h:Int):List Int:=zAw f (f.length+1) h
theorem zlq {f:List Node} {h:Int} (hh:¬isN f h):∀n,zAw f n h=[]
 |0=>rfl
 |n+1=>by unfold zAw;rw[if_neg hh]
theorem zBm {f:List Node} {h:Int} (hr:zcE f) (hh:isN f h):dA f (par f h)+1≤dA f h:=by
 have h1:=zDB hr hh
 by_cases e:par f h=0
 ·rw[e,zGB zgE];omega
 ·rw[(zjs hr e).2.2.2]at h1;omega
theorem zjt {f:List Node} (hr:zcE f):∀n h,dA f h≤n→zAw f (n+1) h=zAw f n h
 |0,h,hd=>by
  by_cases hh:isN f h
  ·have:=zDB hr hh;omega
  ·rw[zlq hh,zlq hh]
 |n+1,h,hd=>by
  show(if isN f h then h::zAw f (n+1) (par f h)else[])=(if isN f h then h::zAw f n (par f h)else[])
  by_cases hh:isN f h
  ·have:=zBm hr hh
   rw[if_pos hh,if_pos hh,zjt hr n _ (by omega)]
  ·rw[if_neg hh,if_neg hh]
theorem zDC {f:List Node} {h:Int} (hh:¬isN f h):anc f h=[]:=zlq hh _
theorem znq {f:List Node} {h:Int} (hr:zcE f) (hh:isN f h):anc f h=h::anc f (par f h):=by
 show(if isN f h then h::zAw f f.length (par f h)else[])=_
 have h1:=zBm hr hh
 have h2:=zJT f h
 rw[if_pos hh]
 unfold anc
 rw[zjt hr f.length _ (by omega)]
theorem zAx {f:List Node} {h:Int} (hr:zcE f) (hh:isN f h):h∈anc f h:=by rw[znq hr hh];exact List.mem_cons_self
def root (f:List Node) (h:Int):Int:=(anc f h).getLast?.getD 0
theorem zlr {f:List Node} {h:Int} (hr:zcE f) (hh:isN f h) (hp:par f h=0):root f h=h:=by
 unfold root
 rw[znq hr hh,hp,zDC zgE];rfl
theorem zls {f:List Node} {h:Int} (hr:zcE f) (hp:par f h≠0):root f h=root f (par f h):=by
 obtain⟨hh,h1,-,-⟩:=zjs hr hp
 unfold root
 rw[znq hr hh,znq hr h1,List.getLast?_cons_cons]
theorem zAy {f:List Node} (hr:zcE f):∀h,isN f h→root f h∈anc f h∧par f (root f h)=0∧isN f (root f h):=by
 refine zoU hr (fun h hh hk=>absurd hk hh) fun h hh ih _=> ?_
 by_cases hp:par f h=0
 ·rw[zlr hr hh hp];exact⟨zAx hr hh,hp,hh⟩
 ·obtain⟨g1,g2,g3⟩:=ih (zjs hr hp).2.1
  rw[zls hr hp]
  exact⟨by rw[znq hr hh];exact List.mem_cons_of_mem _ g1,g2,g3⟩
end Go.Proofs.Ythodcjjgimeeoaa.P
