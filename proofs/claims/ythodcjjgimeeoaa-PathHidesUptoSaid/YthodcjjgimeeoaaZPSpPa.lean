/- Shaken copy of a longer text: what one law needs. Its conditions: none. -/
import Derived.Test.YthodcjjgimeeoaaZPSpRk
set_option linter.unusedSimpArgs false
set_option linter.unusedVariables false
set_option linter.unusedSimpArgs false
set_option linter.unusedVariables false
set_option linter.unusedSectionVars false
set_option linter.unnecessarySimpa false
namespace Go.Proofs.Ythodcjjgimeeoaa.P
open Go.AI
def zBT:List UInt8:=[104,116,116,112,58,47,47,119,119,119,46,119,51,46,111,114,103,47,49,57,57,57,47,120,104,116,109,108]
def zyp:List UInt8:=[115,108,111,116]
def zLj:List UInt8:=[110,97,109,101]
def zjO (n:Node):Bool:=n.kind==1&&n.name.space==zBT&&n.name.local_==zyp
def zbS (k:Int):Bool:=k==1||k==3||k==4
def zol (hand:List Assign) (slot:Int):List Int:=match hand.find? (fun x=>x.slot==slot)with|some x=>x.nodes.l|none=>[]
def zrw (n:Node) (loc:List UInt8):List UInt8:=match n.attrs.l.find? (fun a=>a.name.space==[]&&a.name.local_==loc)with|some a=>a.value|none=>[]
def zqd (f:List Node) (hand:List Assign) (x h:Int) (manual:Bool):Bool:=
 if manual=true then(zol hand x).contains h else zrw (nodeD f x) zLj==(if((nodeD f h).kind==1)=true then zrw (nodeD f h) zyp else[])
def zcd (f:List Node) (hand:List Assign) (h:Int):Int×Int:=
 if zbS (nodeD f h).kind=true∧(nodeD f (par f h)).shadow≠0 then
  match(zkM f (nodeD f (par f h)).shadow).find? (fun x=>zjO (nodeD f x)&&zqd f hand x h (nodeD f (nodeD f (par f h)).shadow).manual)with
  |some x=>(x,(nodeD f (par f h)).shadow)
  |none=>(0,0)
 else(0,0)
theorem zyq {f:List Node} {hand:List Assign} {h:Int} (hr:zaK f) (h0:(zcd f hand h).1≠0):isN f (zcd f hand h).1∧rk f (zcd f hand h).1<rk f h∧zjO (nodeD f (zcd f hand h).1)=true∧(zcd f hand h).2=(nodeD f (par f h)).shadow∧(nodeD f (par f h)).shadow≠0∧(zcd f hand h).1∈zkM f (nodeD f (par f h)).shadow:=by
 unfold zcd at h0⊢
 by_cases hc:zbS (nodeD f h).kind=true∧(nodeD f (par f h)).shadow≠0
 ·rw[if_pos hc]at h0⊢
  rcases hx:(zkM f (nodeD f (par f h)).shadow).find? (fun x=>zjO (nodeD f x)&&zqd f hand x h (nodeD f (nodeD f (par f h)).shadow).manual)with _|x
  ·rw[hx]at h0;exact absurd rfl h0
  ·have hm:=List.mem_of_find?_eq_some hx
   have hp:=List.find?_some hx
   rw[Bool.and_eq_true]at hp
   obtain⟨h1,h2,h3⟩:=zci hr hc.2
   have hk:h∈kidsL f (par f h):=(zeH hr (fun e=>zbe (e▸h1))).2.2.1
   exact⟨(zyh hr _ ((zyk hr h2).1 hm)).2,zFh hr hk hc.2 hm,hp.1,rfl,hc.2,hm⟩
 ·rw[if_neg hc]at h0;exact absurd rfl h0
def zaM (f:List Node) (hand:List Assign) (org:Int) (comp:Bool) (h:Int):Int×Bool:=
 if(nodeD f h).kind=9 then(0,false)
 else if(nodeD f h).kind=12 then(if comp=false∧h=root f org then(0,false)else((nodeD f h).host,false))
 else if(zcd f hand h).1≠0 then((zcd f hand h).1,true)else(par f h,false)
theorem zeb {f:List Node} {hand:List Assign} {org h:Int} {comp:Bool} (hr:zaK f) (hh:isN f h):(zaM f hand org comp h).1=0∨(isN f (zaM f hand org comp h).1∧rk f (zaM f hand org comp h).1<rk f h):=by
 unfold zaM
 by_cases h9:(nodeD f h).kind=9
 ·rw[if_pos h9];exact .inl rfl
 rw[if_neg h9]
 by_cases h12:(nodeD f h).kind=12
 ·rw[if_pos h12]
  by_cases hc:comp=false∧h=root f org
  ·rw[if_pos hc];exact .inl rfl
  ·rw[if_neg hc]
   have hn:nx f h=(nodeD f h).host:=by unfold nx zfW;rw[if_pos (by simp[h12])]
   have hH:=((zdg hr hh).host h12).1
   exact .inr ⟨hH,hn▸zIk hr hh (hn.symm▸hH)⟩
 ·rw[if_neg h12]
  by_cases hs:(zcd f hand h).1≠0
  ·rw[if_pos hs]
   have:=zyq hr hs
   exact .inr ⟨this.1,this.2.1⟩
  ·rw[if_neg hs]
   rcases zIh hr h with hp|hp
   ·exact .inl hp
   ·have:=(zeH hr (fun e=>zbe (e▸hp))).2.2.2
    exact .inr ⟨hp,this▸zIk hr hh (this.symm▸hp)⟩
def Hid (f:List Node) (a b:Int):Prop:=isN f a∧(nodeD f (root f a)).kind=12∧root f a∉upc f b
instance (f:List Node) (a b:Int):Decidable (Hid f a b):=inferInstanceAs (Decidable (_∧_))
def zFi (f:List Node) (b:Int):Nat→Int→Int
 |0,a=>a
 |n+1,a=>if Hid f a b then zFi f b n (nodeD f (root f a)).host else a
def ret (f:List Node) (a b:Int):Int:=zFi f b (f.length+1) a
theorem ziL {f:List Node} {a b:Int} (hr:zaK f) (h:Hid f a b):isN f (nodeD f (root f a)).host∧dA f (nodeD f (root f a)).host<dA f a:=by
 obtain⟨ha,hk,-⟩:=h
 obtain⟨hm,hp,hR⟩:=zgV hr a ha
 have hn:nx f (root f a)=(nodeD f (root f a)).host:=by unfold nx zfW;rw[if_pos (by simp[hk])]
 have h1:=zdI hr hR
 have h2:=zyi hr a hm
 rw[hn]at h1
 exact⟨((zdg hr hR).host hk).1,by omega⟩
theorem zjP {f:List Node} (hr:zaK f) (b:Int):∀n a,dA f a≤n→zFi f b (n+1) a=zFi f b n a
 |0,a,hd=>by
  show(if Hid f a b then _ else a)=a
  rw[if_neg]
  intro h
  have:=zdI hr h.1;omega
 |n+1,a,hd=>by
  show(if Hid f a b then zFi f b (n+1) _ else a)=(if Hid f a b then zFi f b n _ else a)
  by_cases h:Hid f a b
  ·rw[if_pos h,if_pos h,zjP hr b n _ (by have:=ziL hr h;omega)]
  ·rw[if_neg h,if_neg h]
theorem zCK {f:List Node} {a b:Int} (hr:zaK f) (h:Hid f a b):ret f a b=ret f (nodeD f (root f a)).host b:=by
 show(if Hid f a b then zFi f b f.length _ else a)=_
 have:=ziL hr h
 have h2:=ztR f a
 rw[if_pos h]
 unfold ret
 rw[zjP hr b f.length _ (by omega)]
theorem zmb {f:List Node} {a b:Int} (h:¬Hid f a b):ret f a b=a:=if_neg h
theorem zyr {f:List Node} (hr:zaK f) (b:Int):∀n a,dA f a≤n→isN f a→isN f (ret f a b)∧((nodeD f (root f (ret f a b))).kind=12→root f (ret f a b)∈upc f b)
 |0,a,hd,ha=>by have:=zdI hr ha;omega
 |n+1,a,hd,ha=>by
  by_cases h:Hid f a b
  ·rw[zCK hr h]
   have:=ziL hr h
   exact zyr hr b n _ (by omega) this.1
  ·rw[zmb h]
   exact⟨ha,fun hk=>Classical.byContradiction fun hno=>h ⟨ha,hk,hno⟩⟩
theorem zrx {f:List Node} (hr:zaK f) {a b:Int} (ha:a=0∨isN f a):(ret f a b=0↔a=0)∧(ret f a b=0∨isN f (ret f a b)):=by
 rcases ha with rfl|ha
 ·rw[zmb (fun h=>zbe h.1)];exact⟨Iff.rfl,.inl rfl⟩
 ·have:=(zyr hr b _ a (Nat.le_refl _) ha).1
  refine⟨⟨fun e=>absurd (e▸this) zbe,fun e=>absurd (e▸ha) zbe⟩,.inr this⟩
def zik (f:List Node) (h:Int):Bool:=(nodeD f h).kind==12&&(nodeD f h).mode==2
def stepOf (f:List Node) (item target related:Int) (slot:Bool):Step:=⟨item,(nodeD f (root f item)).kind==12,target,related,zik f item,slot⟩
section
variable (f:List Node) (hand:List Assign) (rel org:Int) (comp:Bool)
def zhJ:Nat→Int→Int→Bool→List Step
 |0,_,_,_=>[]
 |n+1,t,h,slot=>if h=0 then[]else
  if root f t∈upc f h then stepOf f h 0 (ret f rel h) (slot&&zik f (root f h))::zhJ n t (zaM f hand org comp h).1 (zaM f hand org comp h).2
  else if h=ret f rel h then[]else stepOf f h h (ret f rel h) (slot&&zik f (root f h))::zhJ n h (zaM f hand org comp h).1 (zaM f hand org comp h).2
def zce (t h:Int) (slot:Bool):List Step:=zhJ f hand rel org comp f.length t h slot
end
def zec (f:List Node) (hand:List Assign) (target rel:Int) (comp:Bool):List Step:=
 if target=ret f rel target∧target≠rel then[]else stepOf f target target (ret f rel target) false::zce f hand rel target comp target (zaM f hand target comp target).1 (zaM f hand target comp target).2
section
variable {f:List Node} {hand:List Assign} {rel org:Int} {comp:Bool}
theorem zep (n:Nat) (t:Int) (slot:Bool):zhJ f hand rel org comp n t 0 slot=[]:=by
 cases n with
 |zero=>rfl
 |succ n=>exact if_pos rfl
theorem zhK (n:Nat) (t h:Int) (slot:Bool):zhJ f hand rel org comp (n+1) t h slot=if h=0 then[]else
 if root f t∈upc f h then stepOf f h 0 (ret f rel h) (slot&&zik f (root f h))::zhJ f hand rel org comp n t (zaM f hand org comp h).1 (zaM f hand org comp h).2
 else if h=ret f rel h then[]else stepOf f h h (ret f rel h) (slot&&zik f (root f h))::zhJ f hand rel org comp n h (zaM f hand org comp h).1 (zaM f hand org comp h).2:=rfl
theorem zil (hr:zaK f):∀n t h slot,(h=0∨(isN f h∧rk f h<n))→zhJ f hand rel org comp (n+1) t h slot=zhJ f hand rel org comp n t h slot
 |0,t,h,slot,hh=>by
  rcases hh with rfl|hh
  ·rw[zep,zep]
  ·omega
 |n+1,t,h,slot,hh=>by
  rcases hh with rfl|⟨h1,h2⟩
  ·rw[zep,zep]
  ·have hn:∀t' s',zhJ f hand rel org comp (n+1) t' (zaM f hand org comp h).1 s'=zhJ f hand rel org comp n t' (zaM f hand org comp h).1 s':=fun t' s'=>zil hr n t' _ s' (by
    rcases zeb (hand:=hand) (org:=org) (comp:=comp) hr h1 with e|⟨e1,e2⟩
    ·exact .inl e
    ·exact .inr ⟨e1,by omega⟩)
   rw[zhK (n+1) t h slot,zhK n t h slot,hn,hn]
theorem zjQ (hr:zaK f) {t h:Int} {slot:Bool} (hh:isN f h):zce f hand rel org comp t h slot=
 if root f t∈upc f h then stepOf f h 0 (ret f rel h) (slot&&zik f (root f h))::zce f hand rel org comp t (zaM f hand org comp h).1 (zaM f hand org comp h).2
 else if h=ret f rel h then[]else stepOf f h h (ret f rel h) (slot&&zik f (root f h))::zce f hand rel org comp h (zaM f hand org comp h).1 (zaM f hand org comp h).2:=by
 unfold zce
 have hl:=zCJ hr hh
 have h0:h≠0:=fun e=>zbe (e▸hh)
 obtain⟨n,hn⟩:∃n,f.length=n+1:=⟨f.length-1,by omega⟩
 have hs:∀t' s',zhJ f hand rel org comp f.length t' (zaM f hand org comp h).1 s'=zhJ f hand rel org comp n t' (zaM f hand org comp h).1 s':=fun t' s'=>by
  rw[hn]
  exact zil hr n t' _ s' (by
   rcases zeb (hand:=hand) (org:=org) (comp:=comp) hr hh with e|⟨e1,e2⟩
   ·exact .inl e
   ·exact .inr ⟨e1,by omega⟩)
 rw[hs,hs]
 conv=>lhs;rw[hn]
 rw[zhK,if_neg h0]
theorem zcV (t:Int) (slot:Bool):zce f hand rel org comp t 0 slot=[]:=zep _ _ _
theorem zmc (hr:zaK f) {P:Int→Int→Bool→List Step→Prop} (h0:∀t s,P t 0 s []) (he:∀t h s,isN f h→P t h s [])
 (hs:∀t h s,isN f h→root f t∈upc f h→P t (zaM f hand org comp h).1 (zaM f hand org comp h).2 (zce f hand rel org comp t (zaM f hand org comp h).1 (zaM f hand org comp h).2)→P t h s (stepOf f h 0 (ret f rel h) (s&&zik f (root f h))::zce f hand rel org comp t (zaM f hand org comp h).1 (zaM f hand org comp h).2))
 (hn:∀t h s,isN f h→root f t∉upc f h→h≠ret f rel h→P h (zaM f hand org comp h).1 (zaM f hand org comp h).2 (zce f hand rel org comp h (zaM f hand org comp h).1 (zaM f hand org comp h).2)→P t h s (stepOf f h h (ret f rel h) (s&&zik f (root f h))::zce f hand rel org comp h (zaM f hand org comp h).1 (zaM f hand org comp h).2)):
 ∀t h s,(h=0∨isN f h)→P t h s (zce f hand rel org comp t h s):=by
 intro t h
 generalize hm:rk f h=m
 induction m using Nat.strongRecOn generalizing t h with
 |_ m ih=>
  intro s hh
  rcases hh with rfl|hh
  ·rw[zcV];exact h0 t s
  ·have hnx:∀t' s',P t' (zaM f hand org comp h).1 s' (zce f hand rel org comp t' (zaM f hand org comp h).1 s'):=fun t' s'=>by
    rcases zeb (hand:=hand) (org:=org) (comp:=comp) hr hh with e|⟨e1,e2⟩
    ·rw[e,zcV];exact h0 t' s'
    ·exact ih _ (by omega) t' _ rfl s' (.inr e1)
   rw[zjQ hr hh]
   by_cases h1:root f t∈upc f h
   ·rw[if_pos h1];exact hs t h s hh h1 (hnx _ _)
   ·rw[if_neg h1]
    by_cases h2:h=ret f rel h
    ·rw[if_pos h2];exact he t h s hh
    ·rw[if_neg h2];exact hn t h s hh h1 h2 (hnx _ _)
theorem ztT (hr:zaK f):∀t h s,(h=0∨isN f h)→(∀x∈zce f hand rel org comp t h s,isN f x.item∧rk f x.item≤rk f h)∧(∀y,(zce f hand rel org comp t h s)[0]? =some y→y.item=h)∧(∀i x y,(zce f hand rel org comp t h s)[i]? =some x→(zce f hand rel org comp t h s)[i+1]? =some y→y.item=(zaM f hand org comp x.item).1)∧(zce f hand rel org comp t h s).Pairwise (fun x y=>rk f y.item<rk f x.item):=by
 have step:∀(h:Int) (x:Step) (l:List Step),isN f h→x.item=h→((∀x∈l,isN f x.item∧rk f x.item≤rk f (zaM f hand org comp h).1)∧(∀y,l[0]? =some y→y.item=(zaM f hand org comp h).1)∧(∀i x y,l[i]? =some x→l[i+1]? =some y→y.item=(zaM f hand org comp x.item).1)∧l.Pairwise (fun x y=>rk f y.item<rk f x.item))→
  ((zaM f hand org comp h).1=0→l=[])→((∀y∈x::l,isN f y.item∧rk f y.item≤rk f h)∧(∀y,(x::l)[0]? =some y→y.item=h)∧(∀i a y,(x::l)[i]? =some a→(x::l)[i+1]? =some y→y.item=(zaM f hand org comp a.item).1)∧(x::l).Pairwise (fun x y=>rk f y.item<rk f x.item)):=by
  intro h x l hh hx ⟨g1,g2,g3,g4⟩ hz
  have hlt:∀y∈l,rk f y.item<rk f h:=fun y hy=>by
   rcases zeb (hand:=hand) (org:=org) (comp:=comp) hr hh with e|⟨e1,e2⟩
   ·rw[hz e]at hy;cases hy
   ·have:=(g1 y hy).2;omega
  refine⟨fun y hy=> ?_,fun y hy=> ?_,fun i a y ha hy=> ?_,List.pairwise_cons.2 ⟨fun y hy=> ?_,g4⟩⟩
  ·rcases List.mem_cons.1 hy with rfl|hy
   ·rw[hx];exact⟨hh,Nat.le_refl _⟩
   ·exact⟨(g1 y hy).1,Nat.le_of_lt (hlt y hy)⟩
  ·simp only[List.getElem?_cons_zero,Option.some.injEq]at hy
   rw[←hy,hx]
  ·cases i with
   |zero=>
    simp only[List.getElem?_cons_zero,Option.some.injEq]at ha
    simp only[List.getElem?_cons_succ]at hy
    rw[←ha,hx];exact g2 y hy
   |succ i=>
    simp only[List.getElem?_cons_succ]at ha hy
    exact g3 i a y ha hy
  ·rw[hx];exact hlt y hy
 refine zmc (P:=fun t h s l=>(∀x∈l,isN f x.item∧rk f x.item≤rk f h)∧(∀y,l[0]? =some y→y.item=h)∧(∀i x y,l[i]? =some x→l[i+1]? =some y→y.item=(zaM f hand org comp x.item).1)∧l.Pairwise (fun x y=>rk f y.item<rk f x.item)) hr (fun t s=>by simp) (fun t h s hh=>by simp) (fun t h s hh h1 ih=> ?_) (fun t h s hh h1 h2 ih=> ?_)
 ·exact step h _ _ hh rfl ih (fun e=>by rw[e,zcV])
 ·exact step h _ _ hh rfl ih (fun e=>by rw[e,zcV])
def zqe (f:List Node) (rel:Int):Int→List Step→Prop
 |_,[]=>True
 |t,x::l=>(isN f (if x.target≠0 then x.target else t)∧(root f (if x.target≠0 then x.target else t)∈upc f x.item))∧(x.related=0↔rel=0)∧(x.related≠0→isN f x.related∧((nodeD f (root f x.related)).kind=12→root f x.related∈upc f x.item))∧zqe f rel (if x.target≠0 then x.target else t) l
theorem zys {f:List Node} (hr:zaK f) {a:Int} (ha:isN f a):root f a∈upc f a:=
 have h:=zgV hr a ha
 (ziK hr h.2.2).1 ((zrv hr _ h.2.2).subset ((zyk hr h.2.2).2 h.1))
theorem zyt (hr:zaK f) (hrel:rel=0∨isN f rel) (h:Int):(ret f rel h=0↔rel=0)∧(ret f rel h≠0→isN f (ret f rel h)∧((nodeD f (root f (ret f rel h))).kind=12→root f (ret f rel h)∈upc f h)):=by
 refine⟨(zrx hr hrel).1,fun h0=> ?_⟩
 rcases hrel with rfl|hrel
 ·exact absurd ((zrx hr (.inl rfl)).1.2 rfl) h0
 ·exact zyr hr h _ rel (Nat.le_refl _) hrel
theorem ztU (hr:zaK f) (hrel:rel=0∨isN f rel):∀t h s,(h=0∨isN f h)→isN f t→zqe f rel t (zce f hand rel org comp t h s):=by
 refine zmc (P:=fun t h s l=>isN f t→zqe f rel t l) hr (fun t s _=>trivial) (fun t h s _ _=>trivial) (fun t h s hh h1 ih ht=> ?_) (fun t h s hh h1 h2 ih ht=> ?_)
 ·have:=zyt hr hrel h
  exact⟨⟨ht,h1⟩,this.1,this.2,ih ht⟩
 ·have:=zyt hr hrel h
  have h0:h≠0:=fun e=>zbe (e▸hh)
  have e:(if(stepOf f h h (ret f rel h) (s&&zik f (root f h))).target≠0 then(stepOf f h h (ret f rel h) (s&&zik f (root f h))).target else t)=h:=if_pos h0
  unfold zqe
  rw[e]
  exact⟨⟨hh,zys hr hh⟩,this.1,this.2,ih hh⟩
end
section
variable {f:List Node} {hand:List Assign} {rel org:Int}
theorem ztV (hr:zaK f):∀t h s,(h=0∨isN f h)→zce f hand rel org false t h s<+:zce f hand rel org true t h s∧∀i x y,(zce f hand rel org false t h s)[i]? =some x→(zce f hand rel org false t h s)[i+1]? =some y→¬(x.item=root f org∧(nodeD f x.item).kind=12):=by
 have hnx:∀h,isN f h→¬(h=root f org∧(nodeD f h).kind=12)→zaM f hand org false h=zaM f hand org true h:=by
  intro h hh hc
  unfold zaM
  by_cases h12:(nodeD f h).kind=12
  ·rw[if_neg (c:=false=false∧h=root f org) (fun e=>hc ⟨e.2,h12⟩),if_neg (c:=true=false∧h=root f org) (fun e=>by cases e.1)]
  ·rw[if_neg h12,if_neg h12]
 have hst:∀h,h=root f org∧(nodeD f h).kind=12→(zaM f hand org false h).1=0:=by
  intro h hc
  unfold zaM
  rw[if_neg (by rw[hc.2];decide),if_pos hc.2,if_pos ⟨rfl,hc.1⟩]
 have step:∀(h t':Int) (x:Step),isN f h→x.item=h→(zce f hand rel org false t' (zaM f hand org false h).1 (zaM f hand org false h).2<+:zce f hand rel org true t' (zaM f hand org false h).1 (zaM f hand org false h).2∧∀i x y,(zce f hand rel org false t' (zaM f hand org false h).1 (zaM f hand org false h).2)[i]? =some x→(zce f hand rel org false t' (zaM f hand org false h).1 (zaM f hand org false h).2)[i+1]? =some y→¬(x.item=root f org∧(nodeD f x.item).kind=12))→
  (x::zce f hand rel org false t' (zaM f hand org false h).1 (zaM f hand org false h).2<+:x::zce f hand rel org true t' (zaM f hand org true h).1 (zaM f hand org true h).2∧∀i a y,(x::zce f hand rel org false t' (zaM f hand org false h).1 (zaM f hand org false h).2)[i]? =some a→(x::zce f hand rel org false t' (zaM f hand org false h).1 (zaM f hand org false h).2)[i+1]? =some y→¬(a.item=root f org∧(nodeD f a.item).kind=12)):=by
  intro h t' x hh hx ⟨g1,g2⟩
  by_cases hc:h=root f org∧(nodeD f h).kind=12
  ·have e:=hst h hc
   rw[e,zcV]
   refine⟨List.cons_prefix_cons.2 ⟨rfl,List.nil_prefix⟩,fun i a y ha hy=> ?_⟩
   simp at hy
  ·refine⟨List.cons_prefix_cons.2 ⟨rfl,by rw[←hnx h hh hc];exact g1⟩,fun i a y ha hy=> ?_⟩
   cases i with
   |zero=>
    simp only[List.getElem?_cons_zero,Option.some.injEq]at ha
    rw[←ha,hx];exact hc
   |succ i=>
    simp only[List.getElem?_cons_succ]at ha hy
    exact g2 i a y ha hy
 refine zmc (P:=fun t h s l=>l<+:zce f hand rel org true t h s∧∀i x y,l[i]? =some x→l[i+1]? =some y→¬(x.item=root f org∧(nodeD f x.item).kind=12)) hr (fun t s=>⟨List.nil_prefix,by simp⟩) (fun t h s hh=>⟨List.nil_prefix,by simp⟩) (fun t h s hh h1 ih=> ?_) (fun t h s hh h1 h2 ih=> ?_)
 ·have:=step h t (stepOf f h 0 (ret f rel h) (s&&zik f (root f h))) hh rfl ih
  rw[zjQ (comp:=true) hr hh,if_pos h1]
  exact this
 ·have:=step h h (stepOf f h h (ret f rel h) (s&&zik f (root f h))) hh rfl ih
  rw[zjQ (comp:=true) hr hh,if_neg h1]
  rw[if_neg h2]
  exact this
theorem zmd (hr:zaK f) {comp:Bool} {target:Int} (ht:isN f target):(∀x∈zec f hand target rel comp,isN f x.item∧rk f x.item≤rk f target)∧(∀y,(zec f hand target rel comp)[0]? =some y→y.item=target∧y.target=target)∧(∀i x y,(zec f hand target rel comp)[i]? =some x→(zec f hand target rel comp)[i+1]? =some y→y.item=(zaM f hand target comp x.item).1)∧(zec f hand target rel comp).Pairwise (fun x y=>rk f y.item<rk f x.item):=by
 unfold zec
 by_cases hc:target=ret f rel target∧target≠rel
 ·rw[if_pos hc];simp
 ·rw[if_neg hc]
  have hnx:=zeb (hand:=hand) (org:=target) (comp:=comp) hr ht
  obtain⟨g1,g2,g3,g4⟩:=ztT (hand:=hand) (rel:=rel) (org:=target) (comp:=comp) hr target _ (zaM f hand target comp target).2 (hnx.imp id fun e=>e.1)
  have hlt:∀y∈zce f hand rel target comp target (zaM f hand target comp target).1 (zaM f hand target comp target).2,rk f y.item<rk f target:=fun y hy=>by
   rcases hnx with e|⟨e1,e2⟩
   ·rw[e,zcV]at hy;cases hy
   ·have:=(g1 y hy).2;omega
  refine⟨fun y hy=> ?_,fun y hy=> ?_,fun i a y ha hy=> ?_,List.pairwise_cons.2 ⟨fun y hy=>hlt y hy,g4⟩⟩
  ·rcases List.mem_cons.1 hy with rfl|hy
   ·exact⟨ht,Nat.le_refl _⟩
   ·exact⟨(g1 y hy).1,Nat.le_of_lt (hlt y hy)⟩
  ·simp only[List.getElem?_cons_zero,Option.some.injEq]at hy
   rw[←hy];exact⟨rfl,rfl⟩
  ·cases i with
   |zero=>
    simp only[List.getElem?_cons_zero,Option.some.injEq]at ha
    simp only[List.getElem?_cons_succ]at hy
    rw[←ha];exact g2 y hy
   |succ i=>
    simp only[List.getElem?_cons_succ]at ha hy
    exact g3 i a y ha hy
theorem ztW (hr:zaK f) {comp:Bool} {target:Int} (ht:isN f target) (hrel:rel=0∨isN f rel) (t:Int):zqe f rel t (zec f hand target rel comp):=by
 unfold zec
 by_cases hc:target=ret f rel target∧target≠rel
 ·rw[if_pos hc];trivial
 ·rw[if_neg hc]
  have hnx:=zeb (hand:=hand) (org:=target) (comp:=comp) hr ht
  have:=zyt hr hrel target
  have h0:target≠0:=fun e=>zbe (e▸ht)
  have e:(if(stepOf f target target (ret f rel target) false).target≠0 then(stepOf f target target (ret f rel target) false).target else t)=target:=if_pos h0
  unfold zqe
  rw[e]
  exact⟨⟨ht,zys hr ht⟩,this.1,this.2,ztU hr hrel target _ _ (hnx.imp id fun e=>e.1) ht⟩
theorem ztX (hr:zaK f) {target:Int} (ht:isN f target):zec f hand target rel false<+:zec f hand target rel true∧∀i x y,(zec f hand target rel false)[i]? =some x→(zec f hand target rel false)[i+1]? =some y→¬(x.item=root f target∧(nodeD f x.item).kind=12):=by
 unfold zec
 by_cases hc:target=ret f rel target∧target≠rel
 ·rw[if_pos hc,if_pos hc];simp
 ·rw[if_neg hc,if_neg hc]
  by_cases hd:target=root f target∧(nodeD f target).kind=12
  ·have e:(zaM f hand target false target).1=0:=by
    unfold zaM
    rw[if_neg (by rw[hd.2];decide),if_pos hd.2,if_pos ⟨rfl,hd.1⟩]
   rw[e,zcV]
   refine⟨List.cons_prefix_cons.2 ⟨rfl,List.nil_prefix⟩,fun i a y ha hy=> ?_⟩
   simp at hy
  ·have e:zaM f hand target false target=zaM f hand target true target:=by
    unfold zaM
    by_cases h12:(nodeD f target).kind=12
    ·rw[if_neg (c:=false=false∧target=root f target) (fun e=>hd ⟨e.2,h12⟩),if_neg (c:=true=false∧target=root f target) (fun e=>by cases e.1)]
    ·rw[if_neg h12,if_neg h12]
   have hnx:=zeb (hand:=hand) (org:=target) (comp:=false) hr ht
   obtain⟨g1,g2⟩:=ztV (hand:=hand) (rel:=rel) (org:=target) hr target _ (zaM f hand target false target).2 (hnx.imp id fun e=>e.1)
   refine⟨List.cons_prefix_cons.2 ⟨rfl,by rw[←e];exact g1⟩,fun i a y ha hy=> ?_⟩
   cases i with
   |zero=>
    simp only[List.getElem?_cons_zero,Option.some.injEq]at ha
    rw[←ha];exact hd
   |succ i=>
    simp only[List.getElem?_cons_succ]at ha hy
    exact g2 i a y ha hy
end
end Go.Proofs.Ythodcjjgimeeoaa.P
