/- Shaken copy of a longer text: what one law needs. Its conditions: none. -/
import Derived.Test.YthodcjjgimeeoaaGreatZPSpRk
set_option linter.unusedSimpArgs false
set_option linter.unusedVariables false
set_option linter.unusedSimpArgs false
set_option linter.unusedVariables false
set_option linter.unusedSectionVars false
set_option linter.unnecessarySimpa false
namespace Go.Proofs.YthodcjjgimeeoaaGreat.P
open Go.AI
def zAs:List UInt8:=[104,116,116,112,58,47,47,119,119,119,46,119,51,46,111,114,103,47,49,57,57,57,47,120,104,116,109,108]
def zkZ:List UInt8:=[115,108,111,116]
def zEp:List UInt8:=[110,97,109,101]
def zcY (n:Node):Bool:=n.kind==1&&n.name.space==zAs&&n.name.local_==zkZ
def zaZ (k:Int):Bool:=k==1||k==3||k==4
def zfH (hand:List Assign) (slot:Int):List Int:=match hand.find? (fun x=>x.slot==slot)with|some x=>x.nodes.l|none=>[]
def zfI (n:Node) (loc:List UInt8):List UInt8:=match n.attrs.l.find? (fun a=>a.name.space==[]&&a.name.local_==loc)with|some a=>a.value|none=>[]
def zeM (f:List Node) (hand:List Assign) (x h:Int) (manual:Bool):Bool:=
 if manual=true then(zfH hand x).contains h else zfI (nodeD f x) zEp==(if((nodeD f h).kind==1)=true then zfI (nodeD f h) zkZ else[])
def zbQ (f:List Node) (hand:List Assign) (h:Int):Int×Int:=
 if zaZ (nodeD f h).kind=true∧(nodeD f (par f h)).shadow≠0 then
  match(zdw f (nodeD f (par f h)).shadow).find? (fun x=>zcY (nodeD f x)&&zeM f hand x h (nodeD f (nodeD f (par f h)).shadow).manual)with
  |some x=>(x,(nodeD f (par f h)).shadow)
  |none=>(0,0)
 else(0,0)
theorem zAt {f:List Node} {hand:List Assign} {h:Int} (hr:zaJ f) (h0:(zbQ f hand h).1≠0):isN f (zbQ f hand h).1∧rk f (zbQ f hand h).1<rk f h∧zcY (nodeD f (zbQ f hand h).1)=true∧(zbQ f hand h).2=(nodeD f (par f h)).shadow∧(nodeD f (par f h)).shadow≠0∧(zbQ f hand h).1∈zdw f (nodeD f (par f h)).shadow:=by
 unfold zbQ at h0⊢
 by_cases hc:zaZ (nodeD f h).kind=true∧(nodeD f (par f h)).shadow≠0
 ·rw[if_pos hc]at h0⊢
  rcases hx:(zdw f (nodeD f (par f h)).shadow).find? (fun x=>zcY (nodeD f x)&&zeM f hand x h (nodeD f (nodeD f (par f h)).shadow).manual)with _|x
  ·rw[hx]at h0;exact absurd rfl h0
  ·have hm:=List.mem_of_find?_eq_some hx
   have hp:=List.find?_some hx
   rw[Bool.and_eq_true]at hp
   obtain⟨h1,h2,h3⟩:=zci hr hc.2
   have hk:h∈kidsL f (par f h):=(zem hr (fun e=>zbr (e▸h1))).2.2.1
   exact⟨(zkW hr _ ((znq hr h2).1 hm)).2,zHV hr hk hc.2 hm,hp.1,rfl,hc.2,hm⟩
 ·rw[if_neg hc]at h0;exact absurd rfl h0
def zaT (f:List Node) (hand:List Assign) (org:Int) (comp:Bool) (h:Int):Int×Bool:=
 if(nodeD f h).kind=9 then(0,false)
 else if(nodeD f h).kind=12 then(if comp=false∧h=root f org then(0,false)else((nodeD f h).host,false))
 else if(zbQ f hand h).1≠0 then((zbQ f hand h).1,true)else(par f h,false)
theorem zeb {f:List Node} {hand:List Assign} {org h:Int} {comp:Bool} (hr:zaJ f) (hh:isN f h):(zaT f hand org comp h).1=0∨(isN f (zaT f hand org comp h).1∧rk f (zaT f hand org comp h).1<rk f h):=by
 unfold zaT
 by_cases h9:(nodeD f h).kind=9
 ·rw[if_pos h9];exact .inl rfl
 rw[if_neg h9]
 by_cases h12:(nodeD f h).kind=12
 ·rw[if_pos h12]
  by_cases hc:comp=false∧h=root f org
  ·rw[if_pos hc];exact .inl rfl
  ·rw[if_neg hc]
   have hn:nx f h=(nodeD f h).host:=by unfold nx zeJ;rw[if_pos (by simp[h12])]
   have hH:=((zda hr hh).host h12).1
   exact .inr ⟨hH,hn▸zLp hr hh (hn.symm▸hH)⟩
 ·rw[if_neg h12]
  by_cases hs:(zbQ f hand h).1≠0
  ·rw[if_pos hs]
   have:=zAt hr hs
   exact .inr ⟨this.1,this.2.1⟩
  ·rw[if_neg hs]
   rcases zLm hr h with hp|hp
   ·exact .inl hp
   ·have:=(zem hr (fun e=>zbr (e▸hp))).2.2.2
    exact .inr ⟨hp,this▸zLp hr hh (this.symm▸hp)⟩
def Hid (f:List Node) (a b:Int):Prop:=isN f a∧(nodeD f (root f a)).kind=12∧root f a∉upc f b
instance (f:List Node) (a b:Int):Decidable (Hid f a b):=inferInstanceAs (Decidable (_∧_))
def zHW (f:List Node) (b:Int):Nat→Int→Int
 |0,a=>a
 |n+1,a=>if Hid f a b then zHW f b n (nodeD f (root f a)).host else a
def ret (f:List Node) (a b:Int):Int:=zHW f b (f.length+1) a
theorem zjW {f:List Node} {a b:Int} (hr:zaJ f) (h:Hid f a b):isN f (nodeD f (root f a)).host∧dA f (nodeD f (root f a)).host<dA f a:=by
 obtain⟨ha,hk,-⟩:=h
 obtain⟨hm,hp,hR⟩:=zfj hr a ha
 have hn:nx f (root f a)=(nodeD f (root f a)).host:=by unfold nx zeJ;rw[if_pos (by simp[hk])]
 have h1:=zdY hr hR
 have h2:=zAg hr a hm
 rw[hn]at h1
 exact⟨((zda hr hR).host hk).1,by omega⟩
theorem zla {f:List Node} (hr:zaJ f) (b:Int):∀n a,dA f a≤n→zHW f b (n+1) a=zHW f b n a
 |0,a,hd=>by
  show(if Hid f a b then _ else a)=a
  rw[if_neg]
  intro h
  have:=zdY hr h.1;omega
 |n+1,a,hd=>by
  show(if Hid f a b then zHW f b (n+1) _ else a)=(if Hid f a b then zHW f b n _ else a)
  by_cases h:Hid f a b
  ·rw[if_pos h,if_pos h,zla hr b n _ (by have:=zjW hr h;omega)]
  ·rw[if_neg h,if_neg h]
theorem zFn {f:List Node} {a b:Int} (hr:zaJ f) (h:Hid f a b):ret f a b=ret f (nodeD f (root f a)).host b:=by
 show(if Hid f a b then zHW f b f.length _ else a)=_
 have:=zjW hr h
 have h2:=zvy f a
 rw[if_pos h]
 unfold ret
 rw[zla hr b f.length _ (by omega)]
theorem znu {f:List Node} {a b:Int} (h:¬Hid f a b):ret f a b=a:=if_neg h
def zgK (f:List Node) (h:Int):Bool:=(nodeD f h).kind==12&&(nodeD f h).mode==2
def stepOf (f:List Node) (item target related:Int) (slot:Bool):Step:=⟨item,(nodeD f (root f item)).kind==12,target,related,zgK f item,slot⟩
section
variable (f:List Node) (hand:List Assign) (rel org:Int) (comp:Bool)
def zhi:Nat→Int→Int→Bool→List Step
 |0,_,_,_=>[]
 |n+1,t,h,slot=>if h=0 then[]else
  if root f t∈upc f h then stepOf f h 0 (ret f rel h) (slot&&zgK f (root f h))::zhi n t (zaT f hand org comp h).1 (zaT f hand org comp h).2
  else if h=ret f rel h then[]else stepOf f h h (ret f rel h) (slot&&zgK f (root f h))::zhi n h (zaT f hand org comp h).1 (zaT f hand org comp h).2
def zdq (t h:Int) (slot:Bool):List Step:=zhi f hand rel org comp f.length t h slot
end
def zfk (f:List Node) (hand:List Assign) (target rel:Int) (comp:Bool):List Step:=
 if target=ret f rel target∧target≠rel then[]else stepOf f target target (ret f rel target) false::zdq f hand rel target comp target (zaT f hand target comp target).1 (zaT f hand target comp target).2
section
variable {f:List Node} {hand:List Assign} {rel org:Int} {comp:Bool}
theorem zeN (n:Nat) (t:Int) (slot:Bool):zhi f hand rel org comp n t 0 slot=[]:=by
 cases n with
 |zero=>rfl
 |succ n=>exact if_pos rfl
theorem zgr (n:Nat) (t h:Int) (slot:Bool):zhi f hand rel org comp (n+1) t h slot=if h=0 then[]else
 if root f t∈upc f h then stepOf f h 0 (ret f rel h) (slot&&zgK f (root f h))::zhi f hand rel org comp n t (zaT f hand org comp h).1 (zaT f hand org comp h).2
 else if h=ret f rel h then[]else stepOf f h h (ret f rel h) (slot&&zgK f (root f h))::zhi f hand rel org comp n h (zaT f hand org comp h).1 (zaT f hand org comp h).2:=rfl
theorem zjp (hr:zaJ f):∀n t h slot,(h=0∨(isN f h∧rk f h<n))→zhi f hand rel org comp (n+1) t h slot=zhi f hand rel org comp n t h slot
 |0,t,h,slot,hh=>by
  rcases hh with rfl|hh
  ·rw[zeN,zeN]
  ·omega
 |n+1,t,h,slot,hh=>by
  rcases hh with rfl|⟨h1,h2⟩
  ·rw[zeN,zeN]
  ·have hn:∀t' s',zhi f hand rel org comp (n+1) t' (zaT f hand org comp h).1 s'=zhi f hand rel org comp n t' (zaT f hand org comp h).1 s':=fun t' s'=>zjp hr n t' _ s' (by
    rcases zeb (hand:=hand) (org:=org) (comp:=comp) hr h1 with e|⟨e1,e2⟩
    ·exact .inl e
    ·exact .inr ⟨e1,by omega⟩)
   rw[zgr (n+1) t h slot,zgr n t h slot,hn,hn]
theorem zlb (hr:zaJ f) {t h:Int} {slot:Bool} (hh:isN f h):zdq f hand rel org comp t h slot=
 if root f t∈upc f h then stepOf f h 0 (ret f rel h) (slot&&zgK f (root f h))::zdq f hand rel org comp t (zaT f hand org comp h).1 (zaT f hand org comp h).2
 else if h=ret f rel h then[]else stepOf f h h (ret f rel h) (slot&&zgK f (root f h))::zdq f hand rel org comp h (zaT f hand org comp h).1 (zaT f hand org comp h).2:=by
 unfold zdq
 have hl:=zAr hr hh
 have h0:h≠0:=fun e=>zbr (e▸hh)
 obtain⟨n,hn⟩:∃n,f.length=n+1:=⟨f.length-1,by omega⟩
 have hs:∀t' s',zhi f hand rel org comp f.length t' (zaT f hand org comp h).1 s'=zhi f hand rel org comp n t' (zaT f hand org comp h).1 s':=fun t' s'=>by
  rw[hn]
  exact zjp hr n t' _ s' (by
   rcases zeb (hand:=hand) (org:=org) (comp:=comp) hr hh with e|⟨e1,e2⟩
   ·exact .inl e
   ·exact .inr ⟨e1,by omega⟩)
 rw[hs,hs]
 conv=>lhs;rw[hn]
 rw[zgr,if_neg h0]
theorem zec (t:Int) (slot:Bool):zdq f hand rel org comp t 0 slot=[]:=zeN _ _ _
theorem zEq (hr:zaJ f) {P:Int→Int→Bool→List Step→Prop} (h0:∀t s,P t 0 s []) (he:∀t h s,isN f h→P t h s [])
 (hs:∀t h s,isN f h→root f t∈upc f h→P t (zaT f hand org comp h).1 (zaT f hand org comp h).2 (zdq f hand rel org comp t (zaT f hand org comp h).1 (zaT f hand org comp h).2)→P t h s (stepOf f h 0 (ret f rel h) (s&&zgK f (root f h))::zdq f hand rel org comp t (zaT f hand org comp h).1 (zaT f hand org comp h).2))
 (hn:∀t h s,isN f h→root f t∉upc f h→h≠ret f rel h→P h (zaT f hand org comp h).1 (zaT f hand org comp h).2 (zdq f hand rel org comp h (zaT f hand org comp h).1 (zaT f hand org comp h).2)→P t h s (stepOf f h h (ret f rel h) (s&&zgK f (root f h))::zdq f hand rel org comp h (zaT f hand org comp h).1 (zaT f hand org comp h).2)):
 ∀t h s,(h=0∨isN f h)→P t h s (zdq f hand rel org comp t h s):=by
 intro t h
 generalize hm:rk f h=m
 induction m using Nat.strongRecOn generalizing t h with
 |_ m ih=>
  intro s hh
  rcases hh with rfl|hh
  ·rw[zec];exact h0 t s
  ·have hnx:∀t' s',P t' (zaT f hand org comp h).1 s' (zdq f hand rel org comp t' (zaT f hand org comp h).1 s'):=fun t' s'=>by
    rcases zeb (hand:=hand) (org:=org) (comp:=comp) hr hh with e|⟨e1,e2⟩
    ·rw[e,zec];exact h0 t' s'
    ·exact ih _ (by omega) t' _ rfl s' (.inr e1)
   rw[zlb hr hh]
   by_cases h1:root f t∈upc f h
   ·rw[if_pos h1];exact hs t h s hh h1 (hnx _ _)
   ·rw[if_neg h1]
    by_cases h2:h=ret f rel h
    ·rw[if_pos h2];exact he t h s hh
    ·rw[if_neg h2];exact hn t h s hh h1 h2 (hnx _ _)
theorem zvC (hr:zaJ f):∀t h s,(h=0∨isN f h)→(∀x∈zdq f hand rel org comp t h s,isN f x.item∧rk f x.item≤rk f h)∧(∀y,(zdq f hand rel org comp t h s)[0]? =some y→y.item=h)∧(∀i x y,(zdq f hand rel org comp t h s)[i]? =some x→(zdq f hand rel org comp t h s)[i+1]? =some y→y.item=(zaT f hand org comp x.item).1)∧(zdq f hand rel org comp t h s).Pairwise (fun x y=>rk f y.item<rk f x.item):=by
 have step:∀(h:Int) (x:Step) (l:List Step),isN f h→x.item=h→((∀x∈l,isN f x.item∧rk f x.item≤rk f (zaT f hand org comp h).1)∧(∀y,l[0]? =some y→y.item=(zaT f hand org comp h).1)∧(∀i x y,l[i]? =some x→l[i+1]? =some y→y.item=(zaT f hand org comp x.item).1)∧l.Pairwise (fun x y=>rk f y.item<rk f x.item))→
  ((zaT f hand org comp h).1=0→l=[])→((∀y∈x::l,isN f y.item∧rk f y.item≤rk f h)∧(∀y,(x::l)[0]? =some y→y.item=h)∧(∀i a y,(x::l)[i]? =some a→(x::l)[i+1]? =some y→y.item=(zaT f hand org comp a.item).1)∧(x::l).Pairwise (fun x y=>rk f y.item<rk f x.item)):=by
  intro h x l hh hx ⟨g1,g2,g3,g4⟩ hz
  have hlt:∀y∈l,rk f y.item<rk f h:=fun y hy=>by
   rcases zeb (hand:=hand) (org:=org) (comp:=comp) hr hh with e|⟨e1,e2⟩
   ·rw[hz e]at hy;cases hy
   ·have:=(g1 y hy).2;omega
  refine⟨fun y hy=> ?_,fun y hy=> ?_,fun i a y ha hy=> ?_,List.pairwise_cons.2 ⟨fun y hy=> ?_,g4⟩⟩
  ·rcases List.mem_cons.1 hy with rfl|hy
   ·rw[hx];exact⟨hh,Nat.le_refl _⟩
   ·exact⟨(g1 y hy).1,Nat.le_of_lt (hlt y hy)⟩
  ·simp only[List.getElem?_cons_zero,Option.some.injEq]at hy
   rw[←hy,hx]
  ·cases i with
   |zero=>
    simp only[List.getElem?_cons_zero,Option.some.injEq]at ha
    simp only[List.getElem?_cons_succ]at hy
    rw[←ha,hx];exact g2 y hy
   |succ i=>
    simp only[List.getElem?_cons_succ]at ha hy
    exact g3 i a y ha hy
  ·rw[hx];exact hlt y hy
 refine zEq (P:=fun t h s l=>(∀x∈l,isN f x.item∧rk f x.item≤rk f h)∧(∀y,l[0]? =some y→y.item=h)∧(∀i x y,l[i]? =some x→l[i+1]? =some y→y.item=(zaT f hand org comp x.item).1)∧l.Pairwise (fun x y=>rk f y.item<rk f x.item)) hr (fun t s=>by simp) (fun t h s hh=>by simp) (fun t h s hh h1 ih=> ?_) (fun t h s hh h1 h2 ih=> ?_)
 ·exact step h _ _ hh rfl ih (fun e=>by rw[e,zec])
 ·exact step h _ _ hh rfl ih (fun e=>by rw[e,zec])
end
section
variable {f:List Node} {hand:List Assign} {rel org:Int}
theorem zHX (hr:zaJ f) {comp:Bool} {target:Int} (ht:isN f target):(∀x∈zfk f hand target rel comp,isN f x.item∧rk f x.item≤rk f target)∧(∀y,(zfk f hand target rel comp)[0]? =some y→y.item=target∧y.target=target)∧(∀i x y,(zfk f hand target rel comp)[i]? =some x→(zfk f hand target rel comp)[i+1]? =some y→y.item=(zaT f hand target comp x.item).1)∧(zfk f hand target rel comp).Pairwise (fun x y=>rk f y.item<rk f x.item):=by
 unfold zfk
 by_cases hc:target=ret f rel target∧target≠rel
 ·rw[if_pos hc];simp
 ·rw[if_neg hc]
  have hnx:=zeb (hand:=hand) (org:=target) (comp:=comp) hr ht
  obtain⟨g1,g2,g3,g4⟩:=zvC (hand:=hand) (rel:=rel) (org:=target) (comp:=comp) hr target _ (zaT f hand target comp target).2 (hnx.imp id fun e=>e.1)
  have hlt:∀y∈zdq f hand rel target comp target (zaT f hand target comp target).1 (zaT f hand target comp target).2,rk f y.item<rk f target:=fun y hy=>by
   rcases hnx with e|⟨e1,e2⟩
   ·rw[e,zec]at hy;cases hy
   ·have:=(g1 y hy).2;omega
  refine⟨fun y hy=> ?_,fun y hy=> ?_,fun i a y ha hy=> ?_,List.pairwise_cons.2 ⟨fun y hy=>hlt y hy,g4⟩⟩
  ·rcases List.mem_cons.1 hy with rfl|hy
   ·exact⟨ht,Nat.le_refl _⟩
   ·exact⟨(g1 y hy).1,Nat.le_of_lt (hlt y hy)⟩
  ·simp only[List.getElem?_cons_zero,Option.some.injEq]at hy
   rw[←hy];exact⟨rfl,rfl⟩
  ·cases i with
   |zero=>
    simp only[List.getElem?_cons_zero,Option.some.injEq]at ha
    simp only[List.getElem?_cons_succ]at hy
    rw[←ha];exact g2 y hy
   |succ i=>
    simp only[List.getElem?_cons_succ]at ha hy
    exact g3 i a y ha hy
end
end Go.Proofs.YthodcjjgimeeoaaGreat.P
