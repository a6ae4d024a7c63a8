/- Shaken copy of a longer text: what one law needs. Its conditions: none. -/
import Derived.Test.YtfleilibjdgcjaaPBDecB
import Derived.Test.YtfleilibjdgcjaaPBSpFlt
set_option linter.unusedSimpArgs false
set_option linter.unusedVariables false
set_option linter.unusedSimpArgs false
set_option linter.unusedVariables false
set_option linter.unusedSectionVars false
set_option linter.unnecessarySimpa false
namespace Go.Proofs.Ytfleilibjdgcjaa.B
open Go.AI
theorem zmO:∀u v,cmpL u v= -1∨cmpL u v=0∨cmpL u v=1
 |[],[]=> .inr (.inl rfl)
 |[],_::_=> .inl rfl
 |_::_,[]=> .inr (.inr rfl)
 |a::u,b::v=>by
  unfold cmpL
  split
  ·exact .inl rfl
  ·split
   ·exact .inr (.inr rfl)
   ·exact zmO u v
theorem zGo (f:Forest) (a b:Int) (hf:Fit f.nodes.l) (hr:zaQ f.nodes.l) (ha:isN f.nodes.l a) (hb:isN f.nodes.l b):pc prog 110 [zad f,.int .i64 a,.int .i64 b]=some (.bool (root f.nodes.l a==root f.nodes.l b)):=by
 refine zNO f a b _ ?_
 unfold zNN
 rw[zmK f a hf hr ha,zmK f b hf hr hb,zat (e:=D.int .i64),zat (e:=D.int .i64),Option.bind_some,Option.bind_some]
theorem zzw (f:Forest) (a b:Int) (hf:Fit f.nodes.l) (hr:zaQ f.nodes.l) (hb:isN f.nodes.l b):(a∉anc f.nodes.l b→pc prog 177 [zad f,.int .i64 a,.int .i64 b]=some (.int .i64 0))∧(a∈anc f.nodes.l b→a≠b→∃k,k∈kidsL f.nodes.l a∧k∈anc f.nodes.l b∧pc prog 177 [zad f,.int .i64 a,.int .i64 b]=some (.int .i64 k)):=by
 have key:∀x,(x=0∨isN f.nodes.l x)→∀below,(a∉anc f.nodes.l x→∃p,zaO (zbB f a) (below,x)=some (.inl p))∧(x=a→isN f.nodes.l x→∃q,zaO (zbB f a) (below,x)=some (.inr (below,q)))∧(a∈anc f.nodes.l x→x≠a→∃k q,k∈kidsL f.nodes.l a∧k∈anc f.nodes.l x∧zaO (zbB f a) (below,x)=some (.inr (k,q))):=by
  refine zee hr (fun x hx hk below=> ?_) fun x hx ih _ below=> ?_
  ·obtain rfl:=hk.resolve_right hx
   refine⟨fun _=>⟨_,zaK (by simp only[zbB];rfl)⟩,fun _ h=>absurd h hx,fun h=> ?_⟩
   rw[zdK hx]at h;cases h
  ·have hne:(!(x==0))=true:=by unfold isN at hx;simp;omega
   by_cases e:x=a
   ·subst e
    refine⟨fun h=>absurd (zeQ hr hx) h,fun _ _=>⟨_,zaK (by simp only[zbB];rw[if_pos hne,if_pos (by simp)])⟩,fun _ h=>absurd rfl h⟩
   ·have hs:zbB f a (below,x)=some (.inl (x,par f.nodes.l x)):=by
     simp only[zbB]
     rw[if_pos hne,if_neg (by simpa using e),zlw f x hf.1,zat (e:=zag)];rfl
    obtain⟨i1,i2,i3⟩:=ih (zJC hr x) x
    rw[zaZ hs,zdW hr hx]
    refine⟨fun h=>i1 fun h1=>h (List.mem_cons_of_mem _ h1),fun h=>absurd h e,fun h _=> ?_⟩
    have h1:a∈anc f.nodes.l (par f.nodes.l x):=(List.mem_cons.1 h).resolve_left fun h=>e h.symm
    by_cases e2:par f.nodes.l x=a
    ·have hp:par f.nodes.l x≠0:=fun h0=>by
      rw[h0,zdK zdg]at h1;cases h1
     obtain⟨_,p1,p2,_⟩:=zeT hr hp
     obtain⟨q,hq⟩:=i2 e2 p1
     exact⟨x,q,e2▸p2,List.mem_cons_self,hq⟩
    ·obtain⟨k,q,k1,k2,k3⟩:=i3 h1 e2
     exact⟨k,q,k1,List.mem_cons_of_mem _ k2,k3⟩
 obtain⟨i1,_,i3⟩:=key b (.inr hb) 0
 refine⟨fun h=> ?_,fun h e=> ?_⟩
 ·obtain⟨p,hp⟩:=i1 h
  refine zJE f a b _ ?_
  unfold zLN
  rw[hp,Option.bind_some]
 ·obtain⟨k,q,k1,k2,k3⟩:=i3 h fun h=>e h.symm
  refine⟨k,k1,k2,zJE f a b _ ?_⟩
  unfold zLN
  rw[k3,Option.bind_some]
theorem zkC {f:Forest} {a b r:Int} {F:List Node}:∀l:List Int,l.Pairwise (fun x y=>cmpL (way F x) (way F y)= -1)→a∈l→b∈l→a≠b→foldI (zcm f a b r) () l=some (.inr (decide (cmpL (way F b) (way F a)= -1)))
 |[],_,h,_,_=>by cases h
 |x::l,hs,ha,hb,e=>by
  rw[List.pairwise_cons]at hs
  by_cases e1:x=a
  ·subst e1
   have hb':=(List.mem_cons.1 hb).resolve_left fun h=>e h.symm
   refine zll ?_
   simp only[zcm]
   rw[if_pos (by simp),zdM (way F x),hs.1 b hb']
   rfl
  ·by_cases e2:x=b
   ·subst e2
    have ha':=(List.mem_cons.1 ha).resolve_left fun h=>e h
    refine zll ?_
    simp only[zcm]
    rw[if_neg (by simpa using e1),if_pos (by simp),hs.1 a ha']
    rfl
   ·rw[zlk (y:=())]
    ·exact zkC l hs.2 ((List.mem_cons.1 ha).resolve_left fun h=>e1 h.symm) ((List.mem_cons.1 hb).resolve_left fun h=>e2 h.symm) e
    ·simp only[zcm]
     rw[if_neg (by simpa using e1),if_neg (by simpa using e2)]
theorem zlA (f:Forest) (a b:Int) (hf:Fit f.nodes.l) (hr:zaQ f.nodes.l) (ha:isN f.nodes.l a) (hb:isN f.nodes.l b) (he:root f.nodes.l a=root f.nodes.l b) (e:a≠b):pc prog 176 [zad f,.int .i64 a,.int .i64 b]=some (.bool (decide (cmpL (way f.nodes.l b) (way f.nodes.l a)= -1))):=by
 have hR:=(zdh hr a ha).2.2
 refine zNQ f a b _ ?_
 unfold zNP
 rw[zmK f a hf hr ha,zat (e:=D.int .i64),Option.bind_some,zoS hf hr hR,Option.bind_some,zkC (F:=f.nodes.l) _ (zil hr _ hR) ((mem_root hr ha ha).2 rfl) ((mem_root hr ha hb).2 he) e,Option.bind_some]
theorem zGp {f:List Node} (hr:zaQ f) {a b:Int} (ha:isN f a) (hb:isN f b) (he:root f a=root f b) (e:cmpL (way f a) (way f b)=0):a=b:=by
 have hR:=(zdh hr a ha).2.2
 have m1:=(mem_root hr ha ha).2 rfl
 have m2:=(mem_root hr ha hb).2 he
 have:=zzg hr hR m1 m2
 rw[e]at this
 obtain⟨i,hi,e1,e2⟩:=zij m1
 obtain⟨j,hj,e3,e4⟩:=zij m2
 rw[e2,e4]at this
 have hij:i=j:=by
  unfold zLM at this
  rcases Nat.lt_trichotomy i j with hl|hl|hl
  ·rw[if_pos (by omega)]at this;simp at this
  ·exact hl
  ·rw[if_neg (by omega),if_pos (by omega)]at this;simp at this
 subst hij
 rw[←e1,e3]
theorem zzx (f:Forest) (a b:Bound) (hf:Fit f.nodes.l) (hr:zaQ f.nodes.l) (ha:isN f.nodes.l a.node) (hb:isN f.nodes.l b.node) (he:root f.nodes.l a.node=root f.nodes.l b.node) (h:cmpL (way f.nodes.l a.node) (way f.nodes.l b.node)= -1):pc prog 111 [zad f,zal a,zal b]=some (.int .i64 (cmpL (key f.nodes.l a) (key f.nodes.l b)))∧cmpL (key f.nodes.l a) (key f.nodes.l b)≠0:=by
 have hn:a.node≠b.node:=fun e=>by rw[e,zdL]at h;cases h
 have hbeh:=zlA f a.node b.node hf hr ha hb he hn
 rw[zdM (way f.nodes.l a.node),h]at hbeh
 obtain⟨w1,w2⟩:=zzw f a.node b.node hf hr hb
 have start:∀z:Int,(∃k:Int,pc prog 177 [zad f,.int .i64 a.node,.int .i64 b.node]=some (.int .i64 k)∧(if(!(k==0))=true then(dec (D.int .i64) (pc prog 146 [zad f,.int .i64 k])).bind fun p=>if(decide (p<a.offset))=true then some (1:Int)else some (-1)else some (-1))=some z)→pc prog 111 [zad f,zal a,zal b]=some (.int .i64 z):=by
  rintro z ⟨k,k1,k2⟩
  refine zCR f a b _ ?_
  unfold zHS
  rw[if_neg (by simp;intro e;exact hn (by rw[e])),if_neg (by simp[hn]),if_neg (by simpa using hn),hbeh,zat (e:=D.bool),Option.bind_some,if_neg (by simp),k1,zat (e:=D.int .i64),Option.bind_some]
  exact k2
 by_cases hm:a.node∈anc f.nodes.l b.node
 ·obtain⟨k,k1,k2,k3⟩:=w2 hm hn
  obtain⟨_,kN,kp,_⟩:=zcW hr k1
  obtain⟨s,hs⟩:=zik hr k kN (zky hr _ k2)
  have e1:key f.nodes.l b=zpb (way f.nodes.l a.node)++(2*plc f.nodes.l k+1)::(zpb s++[2*b.offset]):=by
   unfold key
   rw[hs,zhv hr kN,kp]
   unfold zpb
   rw[List.map_append,List.map_append,List.append_assoc,List.append_assoc];rfl
  have hk0:(!(k==0))=true:=by unfold isN at kN;simp;omega
  have e2:cmpL (key f.nodes.l a) (key f.nodes.l b)=if plc f.nodes.l k<a.offset then 1 else-1:=by
   rw[e1]
   unfold key
   rw[zfP]
   show(if 2*a.offset<2*plc f.nodes.l k+1 then(-1:Int)else if 2*plc f.nodes.l k+1<2*a.offset then 1 else _)=_
   by_cases c:plc f.nodes.l k<a.offset
   ·rw[if_neg (by omega),if_pos (by omega),if_pos c]
   ·rw[if_pos (by omega),if_neg c]
  rw[e2]
  refine⟨start _ ⟨k,k3,?_⟩,by split<;>simp⟩
  rw[if_pos hk0,zzi f k hf,zat (e:=D.int .i64),Option.bind_some]
  by_cases c:plc f.nodes.l k<a.offset
  ·rw[if_pos (by simpa using c),if_pos c]
  ·rw[if_neg (by simpa using c),if_neg c]
 ·have e2:cmpL (key f.nodes.l a) (key f.nodes.l b)= -1:=((zzn hr ha hb he h).resolve_left hm) _ _
  rw[e2]
  exact⟨start _ ⟨0,w1 hm,by rw[if_neg (by simp)]⟩,by simp⟩
theorem zGq (f:Forest) (a b:Bound) (hf:Fit f.nodes.l) (hr:zaQ f.nodes.l) (ha:isN f.nodes.l a.node) (hb:isN f.nodes.l b.node) (he:root f.nodes.l a.node=root f.nodes.l b.node):pc prog 111 [zad f,zal a,zal b]=some (.int .i64 (cmpL (key f.nodes.l a) (key f.nodes.l b)))∧(cmpL (key f.nodes.l a) (key f.nodes.l b)=0↔a=b):=by
 by_cases hab:a=b
 ·subst hab
  rw[zdL]
  refine⟨zCR f a a _ ?_,by simp⟩
  unfold zHS
  rw[if_pos (by simp)]
 by_cases hn:a.node=b.node
 ·have ho:a.offset≠b.offset:=fun e=>hab (by cases a;cases b;simp at hn e;rw[hn,e])
  have e2:cmpL (key f.nodes.l a) (key f.nodes.l b)=if a.offset<b.offset then-1 else 1:=by
   unfold key
   rw[hn,zfP]
   show(if 2*a.offset<2*b.offset then(-1:Int)else if 2*b.offset<2*a.offset then 1 else _)=_
   by_cases c:a.offset<b.offset
   ·rw[if_pos (by omega),if_pos c]
   ·rw[if_neg (by omega),if_pos (by omega),if_neg c]
  rw[e2]
  refine⟨zCR f a b _ ?_,by rw[eq_false hab];split<;>simp⟩
  unfold zHS
  rw[if_neg (by simpa using hab)]
  by_cases c:a.offset<b.offset
  ·rw[if_pos (by simp[hn,c]),if_pos c]
  ·rw[if_neg (by simp[c]),if_pos (by simpa using hn),if_neg c]
 rcases zmO (way f.nodes.l a.node) (way f.nodes.l b.node)with h|h|h
 ·obtain⟨p1,p2⟩:=zzx f a b hf hr ha hb he h
  exact⟨p1,by rw[eq_false hab,eq_false p2]⟩
 ·exact absurd (zGp hr ha hb he h) hn
 ·have h':cmpL (way f.nodes.l b.node) (way f.nodes.l a.node)= -1:=by rw[zdM (way f.nodes.l a.node),h]
  obtain⟨p1,p2⟩:=zzx f b a hf hr hb ha he.symm h'
  have hsw:=zdM (key f.nodes.l b) (key f.nodes.l a)
  refine⟨zCR f a b _ ?_,by rw[eq_false hab,hsw];simp only[iff_false];omega⟩
  unfold zHS
  rw[if_neg (by simpa using hab),if_neg (by simp[hn]),if_neg (by simpa using hn),zlA f a.node b.node hf hr ha hb he hn,zat (e:=D.bool),Option.bind_some,if_pos (by simpa using h'),p1,zat (e:=D.int .i64),Option.bind_some,hsw]
  rcases zmO (key f.nodes.l b) (key f.nodes.l a)with h|h|h<;>rw[h]<;>rfl
def zlB (f:List Node) (b:Bound):Bool:= !(decide (0≤b.offset)&&decide (b.offset≤(zey f b.node:Nat)))
noncomputable def bfR (f:List Node) (l:List Bound) (ns:List Int):Int:=if zbj f (l.map (·.node)++ns)=0 then(if l.any (zlB f)=true then 14 else 0)else zbj f (l.map (·.node)++ns)
theorem zuN (f:Forest) (l:Sl Bound) (ns:Sl Int) (hl:l.l.length≤2^20):zaO (zcl f l ns) (0,[])=some (l.l.map (·.node)):=by
 have hroom:AI.roomBytes=2^46:=rfl
 have key:∀m k,k+m=l.l.length→zaO (zcl f l ns) ((k:Int),(l.l.take k).map (·.node))=some (l.l.map (·.node)):=by
  intro m
  induction m with
  |zero=>
   intro k hk
   obtain rfl:k=l.l.length:=by omega
   refine zaK ?_
   simp only[zcl]
   rw[if_neg (by simp),List.take_length]
  |succ m ih=>
   intro k hk
   have hlt:k<l.l.length:=by omega
   rw[zaZ (y:=(((k+1:Nat):Int),(l.l.take (k+1)).map (·.node)))]
   ·exact ih (k+1) (by omega)
   ·simp only[zcl]
    rw[if_pos (by simpa using hlt),zbo hlt,Option.bind_some,if_pos (by rw[List.length_map,List.length_take];omega),zaM (show k<2^62 by omega),List.take_add_one,List.getElem?_eq_getElem hlt,List.map_append]
    rfl
 exact key l.l.length 0 (by omega)
theorem zsp {f:Forest} {b:Bound} {ρ:Type} {x y:ρ} (hf:Fit f.nodes.l):(if(!(decide (b.offset<0)))=true then(dec (D.int .i64) (pc prog 114 [zad f,.int .i64 b.node])).bind fun r=>if(decide (r<b.offset))=true then some x else some y else some x)=some (if zlB f.nodes.l b=true then x else y):=by
 unfold zlB
 rw[zmL f _ hf,zat (e:=D.int .i64),Option.bind_some]
 by_cases h1:b.offset<0
 ·rw[if_neg (by simp[h1]),if_pos (by simp;omega)]
 ·rw[if_pos (by simpa using h1)]
  by_cases h2:((zey f.nodes.l b.node:Nat):Int)<b.offset
  ·rw[if_pos (by simpa using h2),if_pos (by simp;omega)]
  ·rw[if_neg (by simpa using h2),if_neg (by simp;omega)]
theorem zlC (f:Forest) (l:Sl Bound) (ns:Sl Int) (hf:Fit f.nodes.l) (hl:l.l.length≤2^20) (hn:ns.l.length≤2^20):pc prog 109 [zad f,.list l.n (l.l.map zal),.list ns.n (ns.l.map (D.int .i64))]=some (.int .i64 (bfR f.nodes.l l.l ns.l)):=by
 have hroom:AI.roomBytes=2^46:=rfl
 refine zNM f l ns _ ?_
 unfold zNL bfR
 rw[zuN f l ns hl,Option.bind_some]
 by_cases hns:ns.l=[]
 ·have hq:pc prog 87 [zad f,.list (l.l.map (·.node)).isEmpty ((l.l.map (·.node)).map (D.int .i64))]=some (.int .i64 (zbj f.nodes.l (l.l.map (·.node)))):=zkv f ⟨(l.l.map (·.node)).isEmpty,l.l.map (·.node)⟩ hf (by rw[List.length_map];omega)
  rw[if_pos hns,hq,zat (e:=D.int .i64),Option.bind_some,hns,List.append_nil]
  by_cases h0:zbj f.nodes.l (l.l.map (·.node))=0
  ·have ha:=zdT (step:=zcL f l) (l:=l.l) (zlB f.nodes.l) (.inr ()) (.inl ()) (fun k hk=>by
    simp only[zcL]
    rw[if_pos (by simpa using hk),zbo hk,Option.bind_some,zsp hf,zaM (show k<2^62 by omega)]) (by simp only[zcL];rw[if_neg (by simp)])
   rw[if_neg (by simp[h0]),if_pos h0,ha,Option.bind_some]
   by_cases hb:l.l.any (zlB f.nodes.l)=true
   ·rw[if_pos hb,if_pos hb]
   ·rw[if_neg hb,if_neg hb]
  ·rw[if_pos (by simpa using h0),if_neg h0]
 ·have hq:pc prog 87 [zad f,.list false ((l.l.map (·.node)++ns.l).map (D.int .i64))]=some (.int .i64 (zbj f.nodes.l (l.l.map (·.node)++ns.l))):=zkv f ⟨false,l.l.map (·.node)++ns.l⟩ hf (by rw[List.length_append,List.length_map];omega)
  rw[if_neg hns,if_pos (by rw[List.length_map];omega),hq,zat (e:=D.int .i64),Option.bind_some]
  by_cases h0:zbj f.nodes.l (l.l.map (·.node)++ns.l)=0
  ·have ha:=zdT (step:=zcM f l) (l:=l.l) (zlB f.nodes.l) (.inr ()) (.inl ()) (fun k hk=>by
    simp only[zcM]
    rw[if_pos (by simpa using hk),zbo hk,Option.bind_some,zsp hf,zaM (show k<2^62 by omega)]) (by simp only[zcM];rw[if_neg (by simp)])
   rw[if_neg (by simp[h0]),if_pos h0,ha,Option.bind_some]
   by_cases hb:l.l.any (zlB f.nodes.l)=true
   ·rw[if_pos hb,if_pos hb]
   ·rw[if_neg hb,if_neg hb]
  ·rw[if_pos (by simpa using h0),if_neg h0]
def zHT (f:List Node) (b:Bound):Prop:=isN f b.node∧0≤b.offset∧b.offset≤(zey f b.node:Nat)
theorem zmP {f:List Node} {l:List Bound} {ns:List Int}:bfR f l ns=0↔zaQ f∧(∀b∈l,zHT f b)∧∀h∈ns,isN f h:=by
 unfold bfR
 by_cases h0:zbj f (l.map (·.node)++ns)=0
 ·rw[if_pos h0]
  obtain⟨hr,h1⟩:=zex.1 h0
  have h2:∀b∈l,isN f b.node:=fun b hb=>h1 _ (List.mem_append.2 (.inl (List.mem_map_of_mem hb)))
  have h3:∀h∈ns,isN f h:=fun h hh=>h1 _ (List.mem_append.2 (.inr hh))
  by_cases hb:l.any (zlB f)=true
  ·rw[if_pos hb]
   refine⟨fun h=>(by cases h),fun⟨_,h,_⟩=> ?_⟩
   obtain⟨b,hb1,hb2⟩:=List.any_eq_true.1 hb
   have:=(h b hb1).2
   unfold zlB at hb2
   rw[decide_eq_true this.1,decide_eq_true this.2]at hb2
   cases hb2
  ·rw[if_neg hb]
   refine⟨fun _=>⟨hr,fun b hb1=>⟨h2 b hb1,?_⟩,h3⟩,fun _=>rfl⟩
   have hb2:¬zlB f b=true:=fun h=>hb (List.any_eq_true.2 ⟨b,hb1,h⟩)
   unfold zlB at hb2
   simpa using hb2
 ·rw[if_neg h0]
  refine⟨fun h=>absurd h h0,fun⟨hr,h1,h2⟩=>absurd (zex.2 ⟨hr,fun h hh=> ?_⟩) h0⟩
  rcases List.mem_append.1 hh with hh|hh
  ·obtain⟨b,hb1,rfl⟩:=List.mem_map.1 hh
   exact(h1 b hb1).1
  ·exact h2 h hh
noncomputable def zuS (f:List Node) (a b:Bound):Int×Int:=if bfR f [a,b] []=0 then(if root f a.node=root f b.node then(cmpL (key f a) (key f b),0)else(0,18))else(0,bfR f [a,b] [])
theorem zqH (f:Forest) (a b:Bound) (hf:Fit f.nodes.l):pc prog 41 [zad f,zal a,zal b]=some (eT2 (D.int .i64) (D.int .i64) (zuS f.nodes.l a b)):=by
 have hq:pc prog 109 [zad f,.list false (([a,b]).map zal),.list true []]=some (.int .i64 (bfR f.nodes.l [a,b] [])):=zlC f ⟨false,[a,b]⟩ ⟨true,[]⟩ hf (by simp) (by simp)
 refine zOP f a b _ ?_
 unfold P41 zuS
 rw[hq,zat (e:=D.int .i64),Option.bind_some]
 by_cases h0:bfR f.nodes.l [a,b] []=0
 ·obtain⟨hr,h1,_⟩:=zmP.1 h0
  have ha:=(h1 a (by simp)).1
  have hb:=(h1 b (by simp)).1
  rw[if_neg (by simp[h0]),if_pos h0,zGo f _ _ hf hr ha hb,zat (e:=D.bool),Option.bind_some]
  by_cases he:root f.nodes.l a.node=root f.nodes.l b.node
  ·rw[if_neg (by simpa using he),if_pos he,(zGq f a b hf hr ha hb he).1,zat (e:=D.int .i64),Option.bind_some]
  ·rw[if_pos (by simpa using he),if_neg he]
 ·rw[if_pos (by simpa using h0),if_neg h0]
theorem zmQ {f:List Node} (hr:zaQ f) {h:Int} (hh:isN f h):(zdN f h).length≤2^27:=by
 have h1:=zGn hr (zkA hr) h hh
 have h2:=zzj hr hh
 have h3:=hr.1
 have:(zii f h).length*(16384+1)≤4096*(16384+1):=Nat.mul_le_mul_right _ (by omega)
 omega
theorem zzy {f:List Node} (hr:zaQ f) {h:Int} (hh:isN f h):zdN f h≠[]:=by
 have:(⟨h,0⟩:Bound)∈zdN f h:=(zin hr h hh _).2 ⟨zeQ hr hh,by simp,by simp⟩
 intro e;rw[e]at this;cases this
noncomputable def zeR (f:List Node) (h:Int):Sl Bound×Int:=if zbj f [h]=0 then(⟨false,zdN f h⟩,0)else(⟨true,[]⟩,zbj f [h])
theorem zCT (f:Forest) (h:Int) (hf:Fit f.nodes.l):pc prog 42 [zad f,.int .i64 h]=some (eT2 (eSl zal) (D.int .i64) (zeR f.nodes.l h)):=by
 have hroom:AI.roomBytes=2^46:=rfl
 refine zOQ f h _ ?_
 unfold P42 zeR
 rw[zoW f h hf,zat (e:=D.int .i64),Option.bind_some]
 by_cases h0:zbj f.nodes.l [h]=0
 ·obtain⟨hr,h1⟩:=zex.1 h0
  have hh:=h1 h (by simp)
  have hfo:∀(l acc:List Bound),acc.length+l.length≤2^30→foldI (zez f h) acc l=some (.inl (acc++l)):=by
   intro l
   induction l with
   |nil=>intro acc _;rw[List.append_nil];rfl
   |cons x l ih=>
    intro acc hl
    rw[List.length_cons]at hl
    rw[zlk (y:=acc++[x])]
    ·rw[ih _ (by rw[List.length_append,List.length_singleton];omega),List.append_assoc];rfl
    ·simp only[zez]
     rw[if_pos (by omega)]
  have hne:=zzy hr hh
  rw[if_neg (by simp[h0]),if_pos h0,zoV hf hr hh,Option.bind_some,hfo _ [] (by have:=zmQ hr hh;simp;omega),Option.bind_some,List.nil_append]
  have:(zdN f.nodes.l h).isEmpty=false:=by simpa using hne
  simp only[this]
 ·rw[if_pos (by simpa using h0),if_neg h0]
end Go.Proofs.Ytfleilibjdgcjaa.B
