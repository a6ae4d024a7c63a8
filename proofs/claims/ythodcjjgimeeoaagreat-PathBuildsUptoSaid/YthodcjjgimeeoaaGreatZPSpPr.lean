/- Shaken copy of a longer text: what one law needs. Its conditions: none. -/
import Derived.Test.YthodcjjgimeeoaaGreatZPSpPp
import Derived.Test.YthodcjjgimeeoaaGreatZPSpSr
set_option linter.unusedSimpArgs false
set_option linter.unusedVariables false
set_option linter.unusedSimpArgs false
set_option linter.unusedVariables false
set_option linter.unusedSectionVars false
set_option linter.unnecessarySimpa false
namespace Go.Proofs.YthodcjjgimeeoaaGreat.P
open Go.AI
theorem zfK (f:Forest) (h:Int) (hf:Fit f.nodes.l) (hr:zaJ f.nodes.l) (hh:isN f.nodes.l h):pc prog 75 [zaa f,.int .i64 h]=some (.int .i64 (root f.nodes.l h)):=by
 refine zQS f h _ ?_
 unfold P75
 rw[zvA f h hf hr hh,zap (e:=D.int .i64),Option.bind_some]
theorem zjr (f:Forest) (h:Int) (hf:Fit f.nodes.l) (hr:zaJ f.nodes.l) (hh:isN f.nodes.l h):pc prog 109 [zaa f,.int .i64 h]=some (.bool ((nodeD f.nodes.l (root f.nodes.l h)).kind==12)):=by
 refine zPW f h _ ?_
 unfold zPV
 rw[zfK f h hf hr hh,zap (e:=D.int .i64),Option.bind_some,zdk f _ hf.1 (zfj hr h hh).2.2,zap (e:=zao),Option.bind_some]
theorem zmk (f:Forest) (h:Int) (hf:Fit f.nodes.l) (hh:isN f.nodes.l h):pc prog 74 [zaa f,.int .i64 h]=some (.bool (zgK f.nodes.l h)):=by
 refine zRe f h _ ?_
 unfold P74 zgK
 rw[zdk f h hf.1 hh,zap (e:=zao),Option.bind_some]
 cases(nodeD f.nodes.l h).kind==12<;>rfl
theorem zAF (f:Forest) (a b:Int) (hf:Fit f.nodes.l) (hr:zaJ f.nodes.l) (ha:a=0∨isN f.nodes.l a) (hb:isN f.nodes.l b):pc prog 71 [zaa f,.int .i64 a,.int .i64 b]=some (.int .i64 (ret f.nodes.l a b)):=by
 refine zRb f a b _ ?_
 unfold P71
 have key:∀n a,dA f.nodes.l a≤n→(a=0∨isN f.nodes.l a)→zaL (zcD f b) a=some (ret f.nodes.l a b):=by
  intro n
  have hz:zaL (zcD f b) 0=some (ret f.nodes.l 0 b):=by
   rw[show ret f.nodes.l 0 b=0 from znu (fun h=>zbr h.1)]
   exact zau (by simp only[zcD];rfl)
  induction n with
  |zero=>
   intro a hd ha
   rcases ha with rfl|ha
   ·exact hz
   ·have:=zdY hr ha;omega
  |succ n ih=>
   intro a hd ha
   rcases ha with rfl|ha
   ·exact hz
   obtain⟨hm,hp,hR⟩:=zfj hr a ha
   have hne:(!(a==0))=true:=by unfold isN at ha;simp;omega
   have hstep:zcD f b a=some (if Hid f.nodes.l a b then .inl (nodeD f.nodes.l (root f.nodes.l a)).host else .inr a):=by
    simp only[zcD,zjr f a hf hr ha,zap (e:=D.bool),Option.bind_some,zfK f a hf hr ha,zap (e:=D.int .i64),zmh f _ b hf hr hR hb,zdk f _ hf.1 hR,zap (e:=zao)]
    rw[if_pos hne]
    by_cases hk:(nodeD f.nodes.l (root f.nodes.l a)).kind=12
    ·rw[if_pos (by simp[hk])]
     by_cases hu:root f.nodes.l a∈upc f.nodes.l b
     ·rw[if_neg (by simp[hu]),if_neg (fun h=>h.2.2 hu)]
     ·rw[if_pos (by simp[hu]),if_pos ⟨ha,hk,hu⟩]
    ·rw[if_neg (by simpa using hk),if_neg (fun h=>hk h.2.1)]
   by_cases hh:Hid f.nodes.l a b
   ·rw[if_pos hh]at hstep
    have:=zjW hr hh
    rw[zaC hstep,zFn hr hh]
    exact ih _ (by omega) (.inr this.1)
   ·rw[if_neg hh]at hstep
    rw[znu hh]
    exact zau hstep
 rw[key _ a (Nat.le_refl _) ha,Option.bind_some]
theorem ztf (f:Forest) (h t r:Int) (s:Bool) (hf:Fit f.nodes.l) (hr:zaJ f.nodes.l) (hh:isN f.nodes.l h):pc prog 72 [zaa f,.int .i64 h,.int .i64 t,.int .i64 r,.bool s]=some (zaP (stepOf f.nodes.l h t r s)):=by
 refine zRc f h t r s _ ?_
 unfold P72 stepOf
 rw[zjr f h hf hr hh,zap (e:=D.bool),Option.bind_some,zmk f h hf hh,zap (e:=D.bool),Option.bind_some]
section
variable (f:Forest) (hand:Sl Assign) (org rel:Int) (comp:Bool)
theorem ztg (h:Int) (hf:Fit f.nodes.l) (hr:zaJ f.nodes.l) (hh:zkb hand.l) (ho:isN f.nodes.l org) (hi:isN f.nodes.l h):pc prog 73 [zaa f,.list hand.n (hand.l.map zai),.int .i64 h,.int .i64 org,.bool comp]=some (eT2 (D.int .i64) D.bool (zaT f.nodes.l hand.l org comp h)):=by
 refine zRd f hand h org comp _ ?_
 unfold P73
 have hpar:(nodeD f.nodes.l h).parent=par f.nodes.l h:=rfl
 simp only[zpP,zdk f h hf.1 hi,zap (e:=zao),Option.bind_some,zfK f org hf hr ho,zap (e:=D.int .i64),zvI f hand h hf hr hh hi,zap (e:=eT2 (D.int .i64) (D.int .i64)),hpar]
 generalize (nodeD f.nodes.l h).host=ho'
 generalize (zbQ f.nodes.l hand.l h).1=sl
 generalize par f.nodes.l h=pp
 generalize (h==root f.nodes.l org)=b3
 cases((nodeD f.nodes.l h).kind==9)<;>cases((nodeD f.nodes.l h).kind==12)<;>cases comp<;>cases b3<;>cases(sl==0)<;>rfl
theorem zAG (hf:Fit f.nodes.l) (hr:zaJ f.nodes.l) (hh:zkb hand.l) (ho:isN f.nodes.l org) (hrel:rel=0∨isN f.nodes.l rel) {t h:Int} (ht:isN f.nodes.l t) (hi:isN f.nodes.l h) (s:Bool) (acc:List Step) (hl:acc.length≤2^40):
 zcA f hand org rel comp (acc,t,h,s)=some (if root f.nodes.l t∈upc f.nodes.l h then .inl (acc++[stepOf f.nodes.l h 0 (ret f.nodes.l rel h) (s&&zgK f.nodes.l (root f.nodes.l h))],t,(zaT f.nodes.l hand.l org comp h).1,(zaT f.nodes.l hand.l org comp h).2)
  else if h=ret f.nodes.l rel h then .inr (.inr acc)else .inl (acc++[stepOf f.nodes.l h h (ret f.nodes.l rel h) (s&&zgK f.nodes.l (root f.nodes.l h))],h,(zaT f.nodes.l hand.l org comp h).1,(zaT f.nodes.l hand.l org comp h).2)):=by
 have hroom:AI.roomBytes=2^46:=rfl
 have hne:(h==0)=false:=by unfold isN at hi;simp;omega
 have hT:=(zfj hr t ht).2.2
 have hH:=(zfj hr h hi).2.2
 have hrm:((acc.length+1)*40≤AI.roomBytes)=True:=eq_true (by rw[hroom];omega)
 have hs:(if s=true then(some (zgK f.nodes.l (root f.nodes.l h)):Option Bool)else some false)=some (s&&zgK f.nodes.l (root f.nodes.l h)):=by cases s<;>rfl
 simp only[zcA,zfK f h hf hr hi,zfK f t hf hr ht,zap (e:=D.int .i64),Option.bind_some,zmk f _ hf hH,zap (e:=D.bool),hs,zAF f rel h hf hr hrel hi,zmh f _ h hf hr hT hi,ztf f h _ _ _ hf hr hi,zap (e:=zaP),ztg f hand org comp h hf hr hh ho hi,zap (e:=eT2 (D.int .i64) D.bool),hne,hrm]
 by_cases hu:root f.nodes.l t∈upc f.nodes.l h
 ·simp only[hu,decide_true,Bool.not_false,if_true]
 ·simp only[hu,decide_false,Bool.not_false,if_true,if_false,Bool.false_eq_true]
  by_cases he:h=ret f.nodes.l rel h
  ·have he':(h==ret f.nodes.l rel h)=true:=by simpa using he
   simp only[he',if_true,if_pos he]
  ·have he':(h==ret f.nodes.l rel h)=false:=by simpa using he
   simp only[he',Bool.false_eq_true,if_false,if_neg he]
theorem zIb (hf:Fit f.nodes.l) (hr:zaJ f.nodes.l) (hh:zkb hand.l) (ho:isN f.nodes.l org) (hrel:rel=0∨isN f.nodes.l rel):∀m t h s acc,isN f.nodes.l t→(h=0∨(isN f.nodes.l h∧rk f.nodes.l h≤m))→acc.length+m≤2^40→
 ∃r,zaL (zcA f hand org rel comp) (acc,t,h,s)=some r∧(match r with| .inl q=>q| .inr q=>q)=acc++zdq f.nodes.l hand.l rel org comp t h s:=by
 have hz:∀t acc s,∃r,zaL (zcA f hand org rel comp) (acc,t,0,s)=some r∧(match r with| .inl q=>q| .inr q=>q)=acc++zdq f.nodes.l hand.l rel org comp t 0 s:=fun t acc s=>by
  refine⟨.inl acc,zau (by simp only[zcA];rfl),?_⟩
  rw[zec,List.append_nil]
 intro m
 induction m with
 |zero=>
  intro t h s acc ht hi hl
  rcases hi with rfl|⟨hi,hk⟩
  ·exact hz t acc s
  ·have hstep:=zAG f hand org rel comp hf hr hh ho hrel ht hi s acc (by omega)
   have hnx:=zeb (hand:=hand.l) (org:=org) (comp:=comp) hr hi
   have e0:(zaT f.nodes.l hand.l org comp h).1=0:=hnx.resolve_right (by omega)
   rw[zlb hr hi]
   by_cases hu:root f.nodes.l t∈upc f.nodes.l h
   ·rw[if_pos hu]at hstep⊢
    obtain⟨r,g1,g2⟩:=hz t (acc++[stepOf f.nodes.l h 0 (ret f.nodes.l rel h) (s&&zgK f.nodes.l (root f.nodes.l h))]) (zaT f.nodes.l hand.l org comp h).2
    rw[e0]at hstep
    refine⟨r,by rw[zaC hstep];exact g1,by rw[g2,e0];simp⟩
   ·rw[if_neg hu]at hstep⊢
    by_cases he:h=ret f.nodes.l rel h
    ·rw[if_pos he]at hstep⊢
     exact⟨_,zau hstep,by simp⟩
    ·rw[if_neg he]at hstep⊢
     obtain⟨r,g1,g2⟩:=hz h (acc++[stepOf f.nodes.l h h (ret f.nodes.l rel h) (s&&zgK f.nodes.l (root f.nodes.l h))]) (zaT f.nodes.l hand.l org comp h).2
     rw[e0]at hstep
     refine⟨r,by rw[zaC hstep];exact g1,by rw[g2,e0];simp⟩
 |succ m ih=>
  intro t h s acc ht hi hl
  rcases hi with rfl|⟨hi,hk⟩
  ·exact hz t acc s
  ·have hstep:=zAG f hand org rel comp hf hr hh ho hrel ht hi s acc (by omega)
   have hnx:=zeb (hand:=hand.l) (org:=org) (comp:=comp) hr hi
   have hn2:(zaT f.nodes.l hand.l org comp h).1=0∨(isN f.nodes.l (zaT f.nodes.l hand.l org comp h).1∧rk f.nodes.l (zaT f.nodes.l hand.l org comp h).1≤m):=hnx.imp id fun e=>⟨e.1,by omega⟩
   rw[zlb hr hi]
   by_cases hu:root f.nodes.l t∈upc f.nodes.l h
   ·rw[if_pos hu]at hstep⊢
    obtain⟨r,g1,g2⟩:=ih t _ (zaT f.nodes.l hand.l org comp h).2 (acc++[stepOf f.nodes.l h 0 (ret f.nodes.l rel h) (s&&zgK f.nodes.l (root f.nodes.l h))]) ht hn2 (by simp;omega)
    exact⟨r,by rw[zaC hstep];exact g1,by rw[g2];simp⟩
   ·rw[if_neg hu]at hstep⊢
    by_cases he:h=ret f.nodes.l rel h
    ·rw[if_pos he]at hstep⊢
     exact⟨_,zau hstep,by simp⟩
    ·rw[if_neg he]at hstep⊢
     obtain⟨r,g1,g2⟩:=ih h _ (zaT f.nodes.l hand.l org comp h).2 (acc++[stepOf f.nodes.l h h (ret f.nodes.l rel h) (s&&zgK f.nodes.l (root f.nodes.l h))]) hi hn2 (by simp;omega)
     exact⟨r,by rw[zaC hstep];exact g1,by rw[g2];simp⟩
end
theorem zvL (f:Forest) (hand:Sl Assign) (t rel:Int) (comp:Bool) (hf:Fit f.nodes.l) (hr:zaJ f.nodes.l) (hh:zkb hand.l) (ht:isN f.nodes.l t) (hrel:rel=0∨isN f.nodes.l rel):pc prog 30 [zaa f,.list hand.n (hand.l.map zai),.int .i64 t,.int .i64 rel,.bool comp]=some (eSl zaP ⟨(zfk f.nodes.l hand.l t rel comp).isEmpty,zfk f.nodes.l hand.l t rel comp⟩):=by
 refine zQX f hand t rel comp _ ?_
 unfold P30 zfk
 rw[zAF f rel t hf hr hrel ht,zap (e:=D.int .i64),Option.bind_some]
 by_cases hc:t=ret f.nodes.l rel t∧t≠rel
 ·rw[if_pos (by rw[←hc.1];simpa using hc.2),if_pos hc];rfl
 ·have hcb:¬((bif (t==ret f.nodes.l rel t)then(!(t==rel))else false)=true):=fun e=>hc (by
   rcases e1:(t==ret f.nodes.l rel t)with _|_
   ·rw[e1]at e;cases e
   ·rw[e1]at e
    exact⟨by simpa using e1,by simpa using e⟩)
  rw[if_neg hcb,if_neg hc,ztf f t _ _ _ hf hr ht,zap (e:=zaP),Option.bind_some,ztg f hand t comp t hf hr hh ht ht,zap (e:=eT2 (D.int .i64) D.bool),Option.bind_some]
  have hnx:=zeb (hand:=hand.l) (org:=t) (comp:=comp) hr ht
  have hlen:=hr.1
  obtain⟨r,g1,g2⟩:=zIb f hand t rel comp hf hr hh ht hrel f.nodes.l.length t (zaT f.nodes.l hand.l t comp t).1 (zaT f.nodes.l hand.l t comp t).2 [stepOf f.nodes.l t t (ret f.nodes.l rel t) false] ht (hnx.imp id fun e=>⟨e.1,Nat.le_of_lt (zAr hr e.1)⟩) (by simp;omega)
  rw[g1,Option.bind_some]
  rcases r with q|q
  ·have e:q=_:=g2
   simp only[e];rfl
  ·have e:q=_:=g2
   simp only[e];rfl
theorem zEP (f:Forest) (hand:Sl Assign) (t rel:Int) (comp:Bool) (hf:Fit f.nodes.l) (hh:zkb hand.l):pc prog 8 [zaa f,.list hand.n (hand.l.map zai),.int .i64 t,.int .i64 rel,.bool comp]=some (eT2 (eSl zaP) (D.int .i64) (zct f.nodes.l hand.l t rel comp)):=by
 refine ok8 f hand t rel comp _ ?_
 unfold P8 zct
 have hfa:∀x:Int,pc prog 29 [zaa f,.list false ([x].map (D.int .i64))]=some (.int .i64 (zbH f.nodes.l [x])):=fun x=>zpB f ⟨false,[x]⟩ hf (by simp)
 rw[zrI f hand hf hh,zap (e:=D.int .i64),Option.bind_some]
 by_cases h0:zlh f.nodes.l hand.l=0
 case neg=>
  rw[if_neg (by simpa using h0),if_neg h0,Option.bind_some,if_neg (by
   have:(zlh f.nodes.l hand.l==0)=false:=by simpa using h0
   rw[this];simp),Option.bind_some,if_pos (by simpa using h0)]
 have hr:=zeQ h0
 rw[h0,if_pos (by decide),if_pos rfl,hfa t,zap (e:=D.int .i64),Option.bind_some,Option.bind_some,zte hr]
 by_cases ht:isN f.nodes.l t
 case neg=>
  rw[if_neg ht,if_neg ht,if_neg (by simp),Option.bind_some,if_pos (by decide)]
 rw[if_pos ht,if_pos ht]
 have hr1:(if(bif ((0:Int)==0)then(!(rel==0))else false)=true then((dec (D.int .i64) (pc prog 29 [zaa f,.list false (([rel]).map (D.int .i64))])).bind fun r11=>some r11)else some 0)=some (if rel=0∨isN f.nodes.l rel then 0 else 2):=by
  by_cases hz:rel=0
  ·rw[if_neg (by simp[hz]),if_pos (.inl hz)]
  ·rw[if_pos (by simpa using hz),hfa rel,zap (e:=D.int .i64),Option.bind_some,zte hr]
   by_cases hi:isN f.nodes.l rel
   ·rw[if_pos hi,if_pos (.inr hi)]
   ·rw[if_neg hi,if_neg (fun h=>h.elim hz hi)]
 rw[hr1,Option.bind_some]
 by_cases hrel:rel=0∨isN f.nodes.l rel
 case neg=>rw[if_neg hrel,if_neg hrel,if_pos (by decide)]
 rw[if_pos hrel,if_pos hrel,if_neg (by decide),zvL f hand t rel comp hf hr hh ht hrel,zap (e:=eSl zaP),Option.bind_some]
end Go.Proofs.YthodcjjgimeeoaaGreat.P
