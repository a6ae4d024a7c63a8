/- Shaken copy of a longer text: what one law needs. Its conditions: none. -/
import Derived.Test.YthodcjjgimeeoaaGreatZPSpSh
import Derived.Test.YthodcjjgimeeoaaGreatZPDecQ
import Derived.Test.YthodcjjgimeeoaaGreatZPSpUp
set_option linter.unusedSimpArgs false
set_option linter.unusedVariables false
set_option linter.unusedSimpArgs false
set_option linter.unusedVariables false
set_option linter.unusedSectionVars false
set_option linter.unnecessarySimpa false
namespace Go.Proofs.YthodcjjgimeeoaaGreat.P
open Go.AI
theorem zlg (f:Forest) (h:Int) (hf:Fit f.nodes.l) (hr:zaJ f.nodes.l) (hh:isN f.nodes.l h):pc prog 65 [zaa f,.int .i64 h]=some (zao (nodeD f.nodes.l (root f.nodes.l h))):=by
 refine zQR f h _ ?_
 unfold P65
 rw[zhQ f h hf hr hh,zap (e:=D.int .i64),Option.bind_some,zeL f _ hf.1,zap (e:=zao),Option.bind_some]
theorem zmi (f:Forest) (a b:Int) (hf:Fit f.nodes.l) (hr:zaJ f.nodes.l) (ha:isN f.nodes.l a) (hb:isN f.nodes.l b):pc prog 66 [zaa f,.int .i64 a,.int .i64 b]=some (.bool (decide (a∈upc f.nodes.l b))):=by
 refine zQU f a b _ ?_
 unfold P66
 rw[zvF f a b hf,if_pos (ziM.2 ⟨hr,zAx.2 ⟨ha,hb⟩⟩),zap (e:=eT2 D.bool (D.int .i64)),Option.bind_some]
theorem zAB (f:Forest) (a b:Int) (hf:Fit f.nodes.l) (hr:zaJ f.nodes.l) (ha:a=0∨isN f.nodes.l a) (hb:isN f.nodes.l b):pc prog 62 [zaa f,.int .i64 a,.int .i64 b]=some (.int .i64 (ret f.nodes.l a b)):=by
 refine zQT f a b _ ?_
 unfold P62
 have key:∀n a,dA f.nodes.l a≤n→isN f.nodes.l a→zaL (zcZ f b) a=some (.inr (ret f.nodes.l a b)):=by
  intro n
  induction n with
  |zero=>intro a hd ha;have:=zdY hr ha;omega
  |succ n ih=>
   intro a hd ha
   obtain⟨hm,hp,hR⟩:=zfj hr a ha
   have hne:(!(a==0))=true:=by unfold isN at ha;simp;omega
   have hstep:zcZ f b a=some (if Hid f.nodes.l a b then .inl (nodeD f.nodes.l (root f.nodes.l a)).host else .inr (.inr a)):=by
    simp only[zcZ,zlg f a hf hr ha,zap (e:=zao),Option.bind_some,zhQ f a hf hr ha,zap (e:=D.int .i64),zmi f _ b hf hr hR hb,zap (e:=D.bool)]
    rw[if_pos hne]
    by_cases hk:(nodeD f.nodes.l (root f.nodes.l a)).kind=12
    ·rw[if_pos (by simp[hk])]
     by_cases hu:root f.nodes.l a∈upc f.nodes.l b
     ·rw[if_pos (by simp[hu]),if_neg (fun h=>h.2.2 hu)]
     ·rw[if_neg (by simp[hu]),if_pos ⟨ha,hk,hu⟩]
    ·rw[if_neg (by simpa using hk),if_neg (fun h=>hk h.2.1)]
   by_cases hh:Hid f.nodes.l a b
   ·rw[if_pos hh]at hstep
    have:=zjW hr hh
    rw[zaC hstep,zFn hr hh]
    exact ih _ (by omega) this.1
   ·rw[if_neg hh]at hstep
    rw[znu hh]
    exact zau hstep
 rcases ha with rfl|ha
 ·rw[show ret f.nodes.l 0 b=0 from znu (fun h=>zbr h.1),zau (r:= .inl ()) (by simp only[zcZ];rfl),Option.bind_some]
 ·rw[key _ a (Nat.le_refl _) ha,Option.bind_some]
theorem zpP (f:List Node) (hand:List Assign) (org:Int) (comp:Bool) (h:Int):zaT f hand org comp h=if((nodeD f h).kind==9)=true then(0,false)else if((nodeD f h).kind==12)=true then(if(!comp&&h==root f org)=true then(0,false)else((nodeD f h).host,false))else if((zbQ f hand h).1==0)=true then(par f h,false)else((zbQ f hand h).1,true):=by
 unfold zaT
 by_cases a1:(nodeD f h).kind=9
 ·simp[a1]
 ·have b1:((nodeD f h).kind==9)=false:=by simpa using a1
  simp only[a1,b1,if_false,Bool.false_eq_true]
  by_cases a2:(nodeD f h).kind=12
  ·have b2:((nodeD f h).kind==12)=true:=by simpa using a2
   simp only[b2,if_pos a2,if_true]
   by_cases a3:comp=false∧h=root f org
   ·rw[if_pos a3,if_pos (by rw[a3.1];simpa using a3.2)]
   ·rw[if_neg a3,if_neg (by simpa using a3)]
  ·have b2:((nodeD f h).kind==12)=false:=by simpa using a2
   simp only[b2,if_neg a2,if_false,Bool.false_eq_true]
   by_cases a4:(zbQ f hand h).1=0
   ·simp[a4]
   ·simp[a4]
section
variable (f:Forest) (hand:Sl Assign) (org rel:Int) (comp:Bool)
theorem zpQ (hf:Fit f.nodes.l) (hh:zkb hand.l) (h0:zlh f.nodes.l hand.l=0) (ho:isN f.nodes.l org) (hrel:rel=0∨isN f.nodes.l rel) {t h:Int} (ht:isN f.nodes.l t) (hi:isN f.nodes.l h) (s:Bool) (acc:List Step) (hl:acc.length≤2^40):
 zcM f hand org rel comp (t,acc,h,s)=some (if root f.nodes.l t∈upc f.nodes.l h then .inl (t,acc++[stepOf f.nodes.l h 0 (ret f.nodes.l rel h) (s&&zgK f.nodes.l (root f.nodes.l h))],(zaT f.nodes.l hand.l org comp h).1,(zaT f.nodes.l hand.l org comp h).2)
  else if h=ret f.nodes.l rel h then .inr (.inr (t,acc))else .inl (h,acc++[stepOf f.nodes.l h h (ret f.nodes.l rel h) (s&&zgK f.nodes.l (root f.nodes.l h))],(zaT f.nodes.l hand.l org comp h).1,(zaT f.nodes.l hand.l org comp h).2)):=by
 have hr:=zeQ h0
 have hroom:AI.roomBytes=2^46:=rfl
 have hne:(h==0)=false:=by unfold isN at hi;simp;omega
 have hT:=(zfj hr t ht).2.2
 have hrm:((acc.length+1)*40≤AI.roomBytes)=True:=eq_true (by rw[hroom];omega)
 have hS:ziS f.nodes.l hand.l h=((zbQ f.nodes.l hand.l h).1,0):=by unfold ziS;rw[if_pos h0,if_pos hi]
 simp only[zcM,zlg f h hf hr hi,zap (e:=zao),Option.bind_some,zAB f rel h hf hr hrel hi,zap (e:=D.int .i64),zhQ f t hf hr ht,zmi f _ h hf hr hT hi,zap (e:=D.bool),zeL f _ hf.1,zhQ f org hf hr ho,zmd f hand h hf hh,zap (e:=eT2 (D.int .i64) (D.int .i64)),hS,hne,hrm]
 have hcl:(bif (bif s then((nodeD f.nodes.l (root f.nodes.l h)).kind==12)else false)then((nodeD f.nodes.l (root f.nodes.l h)).mode==2)else false)=(s&&zgK f.nodes.l (root f.nodes.l h)):=by
  unfold zgK
  cases s<;>cases(nodeD f.nodes.l (root f.nodes.l h)).kind==12<;>rfl
 have hcl2:(bif ((nodeD f.nodes.l h).kind==12)then((nodeD f.nodes.l h).mode==2)else false)=zgK f.nodes.l h:=by
  unfold zgK
  cases(nodeD f.nodes.l h).kind==12<;>rfl
 rw[hcl,hcl2]
 have hpar:(nodeD f.nodes.l h).parent=par f.nodes.l h:=rfl
 rw[zpP]
 unfold stepOf
 generalize zgK f.nodes.l (root f.nodes.l h)=b0
 generalize zgK f.nodes.l h=b1
 generalize ((nodeD f.nodes.l (root f.nodes.l h)).kind==12)=b2
 generalize ret f.nodes.l rel h=r at*
 rw[hpar]
 generalize (nodeD f.nodes.l h).host=ho'
 generalize (zbQ f.nodes.l hand.l h).1=sl
 generalize par f.nodes.l h=pp
 by_cases hu:root f.nodes.l t∈upc f.nodes.l h
 ·simp only[hu,decide_true,Bool.not_false,if_true]
  cases((nodeD f.nodes.l h).kind==9)<;>cases((nodeD f.nodes.l h).kind==12)<;>cases comp<;>cases(h==root f.nodes.l org)<;>cases(sl==0)<;>rfl
 ·simp only[hu,decide_false,Bool.not_false,if_true,if_false,Bool.false_eq_true]
  by_cases he:h=r
  ·have he':(h==r)=true:=by simpa using he
   simp only[he',if_true,if_pos he];rfl
  ·have he':(h==r)=false:=by simpa using he
   simp only[he',Bool.false_eq_true,if_false,if_neg he]
   cases((nodeD f.nodes.l h).kind==9)<;>cases((nodeD f.nodes.l h).kind==12)<;>cases comp<;>cases(h==root f.nodes.l org)<;>cases(sl==0)<;>rfl
theorem zAC (hf:Fit f.nodes.l) (hh:zkb hand.l) (h0:zlh f.nodes.l hand.l=0) (ho:isN f.nodes.l org) (hrel:rel=0∨isN f.nodes.l rel):∀m t h s acc,isN f.nodes.l t→(h=0∨(isN f.nodes.l h∧rk f.nodes.l h≤m))→acc.length+m≤2^40→
 ∃r,zaL (zcM f hand org rel comp) (t,acc,h,s)=some r∧(match r with| .inl q=>q.2| .inr q=>q.2)=acc++zdq f.nodes.l hand.l rel org comp t h s:=by
 have hr:=zeQ h0
 have hz:∀t acc s,∃r,zaL (zcM f hand org rel comp) (t,acc,0,s)=some r∧(match r with| .inl q=>q.2| .inr q=>q.2)=acc++zdq f.nodes.l hand.l rel org comp t 0 s:=fun t acc s=>by
  refine⟨.inl (t,acc),zau (by simp only[zcM];rfl),?_⟩
  rw[zec,List.append_nil]
 intro m
 induction m with
 |zero=>
  intro t h s acc ht hi hl
  rcases hi with rfl|⟨hi,hk⟩
  ·exact hz t acc s
  ·have hstep:=zpQ f hand org rel comp hf hh h0 ho hrel ht hi s acc (by omega)
   have hnx:=zeb (hand:=hand.l) (org:=org) (comp:=comp) hr hi
   have e0:(zaT f.nodes.l hand.l org comp h).1=0:=hnx.resolve_right (by omega)
   rw[zlb hr hi]
   by_cases hu:root f.nodes.l t∈upc f.nodes.l h
   ·rw[if_pos hu]at hstep⊢
    obtain⟨r,g1,g2⟩:=hz t (acc++[stepOf f.nodes.l h 0 (ret f.nodes.l rel h) (s&&zgK f.nodes.l (root f.nodes.l h))]) (zaT f.nodes.l hand.l org comp h).2
    rw[e0]at hstep
    refine⟨r,by rw[zaC hstep];exact g1,by rw[g2,e0];simp⟩
   ·rw[if_neg hu]at hstep⊢
    by_cases he:h=ret f.nodes.l rel h
    ·rw[if_pos he]at hstep⊢
     exact⟨_,zau hstep,by simp⟩
    ·rw[if_neg he]at hstep⊢
     obtain⟨r,g1,g2⟩:=hz h (acc++[stepOf f.nodes.l h h (ret f.nodes.l rel h) (s&&zgK f.nodes.l (root f.nodes.l h))]) (zaT f.nodes.l hand.l org comp h).2
     rw[e0]at hstep
     refine⟨r,by rw[zaC hstep];exact g1,by rw[g2,e0];simp⟩
 |succ m ih=>
  intro t h s acc ht hi hl
  rcases hi with rfl|⟨hi,hk⟩
  ·exact hz t acc s
  ·have hstep:=zpQ f hand org rel comp hf hh h0 ho hrel ht hi s acc (by omega)
   have hnx:=zeb (hand:=hand.l) (org:=org) (comp:=comp) hr hi
   have hn2:(zaT f.nodes.l hand.l org comp h).1=0∨(isN f.nodes.l (zaT f.nodes.l hand.l org comp h).1∧rk f.nodes.l (zaT f.nodes.l hand.l org comp h).1≤m):=hnx.imp id fun e=>⟨e.1,by omega⟩
   rw[zlb hr hi]
   by_cases hu:root f.nodes.l t∈upc f.nodes.l h
   ·rw[if_pos hu]at hstep⊢
    obtain⟨r,g1,g2⟩:=ih t _ (zaT f.nodes.l hand.l org comp h).2 (acc++[stepOf f.nodes.l h 0 (ret f.nodes.l rel h) (s&&zgK f.nodes.l (root f.nodes.l h))]) ht hn2 (by simp;omega)
    exact⟨r,by rw[zaC hstep];exact g1,by rw[g2];simp⟩
   ·rw[if_neg hu]at hstep⊢
    by_cases he:h=ret f.nodes.l rel h
    ·rw[if_pos he]at hstep⊢
     exact⟨_,zau hstep,by simp⟩
    ·rw[if_neg he]at hstep⊢
     obtain⟨r,g1,g2⟩:=ih h _ (zaT f.nodes.l hand.l org comp h).2 (acc++[stepOf f.nodes.l h h (ret f.nodes.l rel h) (s&&zgK f.nodes.l (root f.nodes.l h))]) hi hn2 (by simp;omega)
     exact⟨r,by rw[zaC hstep];exact g1,by rw[g2];simp⟩
end
theorem zte {f:List Node} (hr:zaJ f) (x:Int):zbH f [x]=if isN f x then 0 else 2:=by
 unfold zbH
 rw[if_pos (zdv.2 hr)]
 by_cases h:isN f x
 ·rw[if_pos h,if_pos (by simpa using h)]
 ·rw[if_neg h,if_neg (by simpa using h)]
noncomputable def zct (f:List Node) (hand:List Assign) (t rel:Int) (comp:Bool):Sl Step×Int:=
 if zlh f hand=0 then(if isN f t then(if rel=0∨isN f rel then(⟨(zfk f hand t rel comp).isEmpty,zfk f hand t rel comp⟩,0)else(⟨true,[]⟩,2))else(⟨true,[]⟩,2))else(⟨true,[]⟩,zlh f hand)
theorem zEN (f:Forest) (hand:Sl Assign) (t rel:Int) (comp:Bool) (hf:Fit f.nodes.l) (hh:zkb hand.l):pc prog 7 [zaa f,.list hand.n (hand.l.map zai),.int .i64 t,.int .i64 rel,.bool comp]=some (eT2 (eSl zaP) (D.int .i64) (zct f.nodes.l hand.l t rel comp)):=by
 refine ok7 f hand t rel comp _ ?_
 unfold P7 zct
 rw[zlf f hand hf hh,zap (e:=D.int .i64),Option.bind_some]
 by_cases h0:zlh f.nodes.l hand.l=0
 case neg=>
  rw[if_neg (by simpa using h0),if_neg h0,Option.bind_some,if_neg (by
   have:(zlh f.nodes.l hand.l==0)=false:=by simpa using h0
   rw[this];simp),Option.bind_some,if_pos (by simpa using h0)]
 have hr:=zeQ h0
 rw[h0,if_pos (by decide),if_pos rfl,zlc f t hf,zap (e:=D.int .i64),Option.bind_some,Option.bind_some,zte hr]
 by_cases ht:isN f.nodes.l t
 case neg=>
  rw[if_neg ht,if_neg ht,if_neg (by simp),Option.bind_some,if_pos (by decide)]
 rw[if_pos ht,if_pos ht]
 have hr1:(if(bif ((0:Int)==0)then(!(rel==0))else false)=true then((dec (D.int .i64) (pc prog 26 [zaa f,.list false (([rel]).map (D.int .i64))])).bind fun r11=>some r11)else some 0)=some (if rel=0∨isN f.nodes.l rel then 0 else 2):=by
  by_cases hz:rel=0
  ·rw[if_neg (by simp[hz]),if_pos (.inl hz)]
  ·rw[if_pos (by simpa using hz),zlc f rel hf,zap (e:=D.int .i64),Option.bind_some,zte hr]
   by_cases hi:isN f.nodes.l rel
   ·rw[if_pos hi,if_pos (.inr hi)]
   ·rw[if_neg hi,if_neg (fun h=>h.elim hz hi)]
 rw[hr1,Option.bind_some]
 by_cases hrel:rel=0∨isN f.nodes.l rel
 case neg=>rw[if_neg hrel,if_neg hrel,if_pos (by decide)]
 rw[if_pos hrel,if_pos hrel,if_neg (by decide),zAB f rel t hf hr hrel ht,zap (e:=D.int .i64),Option.bind_some]
 have hS:ziS f.nodes.l hand.l t=((zbQ f.nodes.l hand.l t).1,0):=by unfold ziS;rw[if_pos h0,if_pos ht]
 have hroom:AI.roomBytes=2^46:=rfl
 have hlen:=hr.1
 have hloop:∀h s,(h=0∨isN f.nodes.l h)→∃r,zaL (zcM f hand t rel comp) (t,[stepOf f.nodes.l t t (ret f.nodes.l rel t) false],h,s)=some r∧(match r with| .inl q=>q.2| .inr q=>q.2)=stepOf f.nodes.l t t (ret f.nodes.l rel t) false::zdq f.nodes.l hand.l rel t comp t h s:=fun h s hi=>by
  obtain⟨r,g1,g2⟩:=zAC f hand t rel comp hf hh h0 ht hrel f.nodes.l.length t h s [stepOf f.nodes.l t t (ret f.nodes.l rel t) false] ht (hi.imp id fun e=>⟨e,Nat.le_of_lt (zAr hr e)⟩) (by simp;omega)
  exact⟨r,g1,by rw[g2];rfl⟩
 unfold zfk
 by_cases hc:t=ret f.nodes.l rel t∧t≠rel
 ·rw[if_pos (by rw[←hc.1];simpa using hc.2),if_pos hc];rfl
 ·have hcb:¬((bif (t==ret f.nodes.l rel t)then(!(t==rel))else false)=true):=fun e=>hc (by
   rcases e1:(t==ret f.nodes.l rel t)with _|_
   ·rw[e1]at e;cases e
   ·rw[e1]at e
    exact⟨by simpa using e1,by simpa using e⟩)
  rw[if_neg hcb,if_neg hc]
  simp only[zeL f _ hf.1,zap (e:=zao),Option.bind_some,zlg f t hf hr ht,zhQ f t hf hr ht,zap (e:=D.int .i64),zmd f hand t hf hh,zap (e:=eT2 (D.int .i64) (D.int .i64)),hS]
  rw[if_pos (by rw[hroom];omega)]
  have hst:(⟨t,((nodeD f.nodes.l (root f.nodes.l t)).kind==12),t,ret f.nodes.l rel t,(bif ((nodeD f.nodes.l t).kind==12)then((nodeD f.nodes.l t).mode==2)else false),false⟩:Step)=stepOf f.nodes.l t t (ret f.nodes.l rel t) false:=by
   unfold stepOf zgK
   cases(nodeD f.nodes.l t).kind==12<;>rfl
  rw[hst]
  generalize stepOf f.nodes.l t t (ret f.nodes.l rel t) false=st0 at*
  have fin:∀(r:(Int×List Step)⊕(Int×List Step)) (l:List Step),(match r with| .inl q=>q.2| .inr q=>q.2)=st0::l→(match r with| .inl q=>some ((⟨false,q.2⟩:Sl Step),(0:Int))| .inr q=>some (⟨false,q.2⟩,0))=some (⟨(st0::l).isEmpty,st0::l⟩,0):=fun r l e=>by
   rcases r with q|q
   ·have e:q.2=_:=e
    simp only[e];rfl
   ·have e:q.2=_:=e
    simp only[e];rfl
  have hpar:(nodeD f.nodes.l t).parent=par f.nodes.l t:=rfl
  have hnx:=zeb (hand:=hand.l) (org:=t) (comp:=comp) hr ht
  unfold zaT at hnx⊢
  by_cases a1:(nodeD f.nodes.l t).kind=9
  ·rw[if_pos a1]at hnx⊢
   obtain⟨r,g1,g2⟩:=hloop 0 false (.inl rfl)
   rw[if_pos (by simpa using a1)]
   simp only[Option.bind_some,g1]
   exact fin r _ g2
  ·rw[if_neg a1]at hnx⊢
   rw[if_neg (by simpa using a1)]
   by_cases a2:(nodeD f.nodes.l t).kind=12
   ·rw[if_pos a2]at hnx⊢
    by_cases a3:comp=false∧t=root f.nodes.l t
    ·rw[if_pos a3]at hnx⊢
     obtain⟨r,g1,g2⟩:=hloop 0 false (.inl rfl)
     rw[if_pos (by rw[a2,a3.1];rfl),Option.bind_some,if_pos (by simpa using a3.2)]
     simp only[Option.bind_some,g1]
     exact fin r _ g2
    ·rw[if_neg a3]at hnx⊢
     obtain⟨r,g1,g2⟩:=hloop _ false (hnx.imp id fun e=>e.1)
     have hj:(if(bif ((nodeD f.nodes.l t).kind==12)then(!comp)else false)=true then some (t==root f.nodes.l t)else some false)=some false:=by
      rw[a2]
      cases comp with
      |true=>rfl
      |false=>
       have:(t==root f.nodes.l t)=false:=by simpa using fun e=>a3 ⟨rfl,e⟩
       rw[this];rfl
     rw[hj,Option.bind_some,if_neg (by simp),if_pos (by simpa using a2)]
     simp only[Option.bind_some,g1]
     exact fin r _ g2
   ·rw[if_neg a2]at hnx⊢
    have hj:(if(bif ((nodeD f.nodes.l t).kind==12)then(!comp)else false)=true then some (t==root f.nodes.l t)else some false)=some false:=by
     have:((nodeD f.nodes.l t).kind==12)=false:=by simpa using a2
     rw[this];rfl
    rw[hj,Option.bind_some,if_neg (by simp),if_neg (by simpa using a2)]
    by_cases a4:(zbQ f.nodes.l hand.l t).1=0
    ·rw[if_neg (by simpa using a4)]at hnx⊢
     obtain⟨r,g1,g2⟩:=hloop _ false (hnx.imp id fun e=>e.1)
     rw[if_neg (by simpa using a4),Option.bind_some]
     dsimp only
     rw[hpar,g1,Option.bind_some]
     exact fin r _ g2
    ·rw[if_pos a4]at hnx⊢
     obtain⟨r,g1,g2⟩:=hloop _ true (hnx.imp id fun e=>e.1)
     rw[if_pos (by simpa using a4),Option.bind_some]
     dsimp only
     rw[g1,Option.bind_some]
     exact fin r _ g2
end Go.Proofs.YthodcjjgimeeoaaGreat.P
