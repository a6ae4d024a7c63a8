/- Shaken copy of a longer text: what one law needs. Its conditions: none. -/
import Derived.Test.YtfleilibjdgcjaaWBSpBl
set_option linter.unusedSimpArgs false
set_option linter.unusedVariables false
set_option linter.unusedSimpArgs false
set_option linter.unusedVariables false
set_option linter.unusedSectionVars false
set_option linter.unnecessarySimpa false
namespace Go.Proofs.Ytfleilibjdgcjaa.B
open Go.AI
theorem zgD {u v w:List Int} (h1:cmpL u v<0) (h2:cmpL v w≤0):cmpL u w<0:=by
 have h3:=zeX (u:=u) (v:=v) (by omega) h2
 rcases Int.lt_or_eq_of_le h3 with h|h
 ·exact h
 ·rw[←zjm h]at h2
  have:=zbx u v
  omega
theorem zxe {u v w:List Int} (h1:cmpL u v≤0) (h2:cmpL v w<0):cmpL u w<0:=by
 have h3:=zeX (v:=v) (w:=w) h1 (by omega)
 rcases Int.lt_or_eq_of_le h3 with h|h
 ·exact h
 ·rw[←zjm h]at h2
  have:=zbx u v
  omega
theorem znF {f:List Node} (hr:zaI f) {h:Int} (hh:isN f h) {b:Bound} (hb:b∈zem f h):cmpL (key f ⟨h,0⟩) (key f b)≤0:=by
 have hs:=zhp hr h hh
 have e:zem f h=⟨h,0⟩::((List.range' 1 (zfm f h)).flatMap (pce f (zem f) h)):=by
  rw[zkm hr hh,List.range_eq_range',List.range'_succ,List.flatMap_cons]
  show((if 0<0∧_ then _ else _)++_)++_=_
  rw[if_neg (by simp)];rfl
 rw[e]at hb hs
 rcases List.mem_cons.1 hb with rfl|hb
 ·rw[zbU];omega
 ·rw[(List.pairwise_cons.1 hs).1 b hb];omega
theorem zlG {f:List Node} (hr:zaI f) {h:Int} (hh:isN f h) {b:Bound} (hb:b∈zem f h):cmpL (key f b) (key f ⟨h,(zfm f h:Nat)⟩)≤0:=by
 have hs:=zhp hr h hh
 have e:∃l,zem f h=l++[⟨h,((zfm f h:Nat):Int)⟩]:=by
  rw[zkm hr hh,List.range_succ,List.flatMap_append,List.flatMap_singleton]
  unfold pce
  exact⟨_,(List.append_assoc _ _ _).symm⟩
 obtain⟨l,e⟩:=e
 rw[e]at hb hs
 rcases List.mem_append.1 hb with hb|hb
 ·rw[(List.pairwise_append.1 hs).2.2 b hb _ (by simp)];omega
 ·rw[List.mem_singleton.1 hb,zbU];omega
theorem zxf {f:List Node} (hr:zaI f) {h:Int} (hh:isN f h) (o:Int) (ho:0≤o):cmpL (key f ⟨par f h,plc f h⟩) (key f ⟨h,o⟩)<0∧cmpL (key f ⟨h,o⟩) (key f ⟨par f h,plc f h+1⟩)<0:=by
 have e:key f ⟨h,o⟩=zhP (way f (par f h))++(2*plc f h+1)::[2*o]:=by
  unfold key
  show zhP (way f h)++_=_
  rw[zfv hr hh]
  unfold zhP
  rw[List.map_append,List.append_assoc];rfl
 rw[e]
 unfold key
 constructor
 ·have:cmpL (zhP (way f (par f h))++[2*plc f h]) (zhP (way f (par f h))++(2*plc f h+1)::[2*o])= -1:=zii _ (by omega)
  show cmpL (zhP (way f (par f h))++[2*plc f h]) _<0
  omega
 ·have:cmpL (zhP (way f (par f h))++(2*plc f h+1)::[2*o]) (zhP (way f (par f h))++[2*(plc f h+1)])= -1:=zii _ (by omega)
  show cmpL _ (zhP (way f (par f h))++[2*(plc f h+1)])<0
  omega
structure isRg (f:List Node) (r:Range):Prop where
 s:isPt f r.start
 e:isPt f r.end_
 one:root f r.start.node=root f r.end_.node
 le:cmpL (key f r.start) (key f r.end_)≤0
open Classical in
noncomputable def wrR (f:List Node) (r:Range) (more:List Bound) (ns:List Int):Int:=if bfR f ([r.start,r.end_]++more) ns=0 then(if isRg f r then 0 else 15)else bfR f ([r.start,r.end_]++more) ns
theorem zlH {f:List Node} {r:Range} {more:List Bound} {ns:List Int}:wrR f r more ns=0↔zaI f∧isRg f r∧(∀b∈more,isPt f b)∧∀h∈ns,isN f h:=by
 unfold wrR
 by_cases h0:bfR f ([r.start,r.end_]++more) ns=0
 ·rw[if_pos h0]
  obtain⟨hr,h1,h2⟩:=zfe.1 h0
  by_cases hg:isRg f r
  ·rw[if_pos hg]
   exact⟨fun _=>⟨hr,hg,fun b hb=>h1 b (List.mem_append.2 (.inr hb)),h2⟩,fun _=>rfl⟩
  ·rw[if_neg hg]
   exact⟨fun h=>(by cases h),fun h=>absurd h.2.1 hg⟩
 ·rw[if_neg h0]
  refine⟨fun h=>absurd h h0,fun⟨hr,hg,h1,h2⟩=>absurd (zfe.2 ⟨hr,fun b hb=> ?_,h2⟩) h0⟩
  rcases List.mem_append.1 hb with hb|hb
  ·simp only[List.mem_cons,List.not_mem_nil,or_false]at hb
   rcases hb with rfl|rfl
   ·exact hg.s
   ·exact hg.e
  ·exact h1 b hb
theorem zxg (f:Forest) (r:Range) (hf:Fit f.nodes.l) (hr:zaI f.nodes.l) (hs:isPt f.nodes.l r.start) (he:isPt f.nodes.l r.end_):∃v,pc prog 147 [zac f,zaP r]=some (.bool v)∧(v=true↔isRg f.nodes.l r):=by
 by_cases ho:root f.nodes.l r.start.node=root f.nodes.l r.end_.node
 ·refine⟨decide (cmpL (key f.nodes.l r.start) (key f.nodes.l r.end_)≤0),zGE f r _ ?_,?_⟩
  ·unfold zIc
   rw[zht f _ _ hf hr hs.1 he.1,zav (e:=D.bool),Option.bind_some,if_pos (by simpa using ho),(zej f _ _ hf hr hs.1 he.1 ho).1,zav (e:=D.int .i64),Option.bind_some]
  ·rw[decide_eq_true_iff];exact⟨fun h=>⟨hs,he,ho,h⟩,fun h=>h.le⟩
 ·refine⟨false,zGE f r _ ?_,fun h=>(by cases h),fun h=>absurd h.one ho⟩
  unfold zIc
  rw[zht f _ _ hf hr hs.1 he.1,zav (e:=D.bool),Option.bind_some,if_neg (by simpa using ho)]
theorem zjr (f:Forest) (r:Range) (more:Sl Bound) (ns:Sl Int) (hf:Fit f.nodes.l) (hm:more.l.length≤2^10) (hn:ns.l.length≤2^10):pc prog 139 [zac f,zaP r,.list more.n (more.l.map zai),.list ns.n (ns.l.map (D.int .i64))]=some (.int .i64 (wrR f.nodes.l r more.l ns.l)):=by
 have hroom:AI.roomBytes=2^46:=rfl
 refine zJF f r more ns _ ?_
 unfold zJE wrR
 have fin:bfR f.nodes.l ([r.start,r.end_]++more.l) ns.l=0→∃v,pc prog 147 [zac f,zaP r]=some (.bool v)∧(v=true↔isRg f.nodes.l r):=fun h0=>by
  obtain⟨hr,h1,_⟩:=zfe.1 h0
  exact zxg f r hf hr (h1 _ (by simp)) (h1 _ (by simp))
 by_cases hz:more.l=[]
 ·have hq:pc prog 109 [zac f,.list false (([r.start,r.end_]).map zai),.list ns.n (ns.l.map (D.int .i64))]=some (.int .i64 (bfR f.nodes.l [r.start,r.end_] ns.l)):=zhu f ⟨false,[r.start,r.end_]⟩ ns hf (by simp) (by omega)
  rw[hz,List.append_nil]at fin
  rw[if_pos hz,hq,zav (e:=D.int .i64),Option.bind_some,hz,List.append_nil]
  by_cases h0:bfR f.nodes.l [r.start,r.end_] ns.l=0
  ·obtain⟨v,v1,v2⟩:=fin h0
   rw[if_neg (by simp[h0]),if_pos h0,v1,zav (e:=D.bool),Option.bind_some]
   by_cases hg:isRg f.nodes.l r
   ·rw[if_neg (by simp[v2.2 hg]),if_pos hg]
   ·rw[if_pos (by simpa using fun h=>hg (v2.1 h)),if_neg hg]
  ·rw[if_pos (by simpa using h0),if_neg h0]
 ·have hq:pc prog 109 [zac f,.list false (([r.start,r.end_]++more.l).map zai),.list ns.n (ns.l.map (D.int .i64))]=some (.int .i64 (bfR f.nodes.l ([r.start,r.end_]++more.l) ns.l)):=zhu f ⟨false,[r.start,r.end_]++more.l⟩ ns hf (by simp;omega) (by omega)
  rw[if_neg hz,if_pos (by simp;omega),hq,zav (e:=D.int .i64),Option.bind_some]
  by_cases h0:bfR f.nodes.l ([r.start,r.end_]++more.l) ns.l=0
  ·obtain⟨v,v1,v2⟩:=fin h0
   rw[if_neg (by rw[h0];simp),if_pos h0,v1,zav (e:=D.bool),Option.bind_some]
   by_cases hg:isRg f.nodes.l r
   ·rw[if_neg (by simp[v2.2 hg]),if_pos hg]
   ·rw[if_pos (by simpa using fun h=>hg (v2.1 h)),if_neg hg]
  ·rw[if_pos (by simpa using h0),if_neg h0]
def whB (f:List Node) (r:Range) (h:Int):Bool:=decide (root f h=root f r.start.node)&&(decide (0<cmpL (key f ⟨h,0⟩) (key f r.start))&&decide (cmpL (key f ⟨h,(zfm f h:Nat)⟩) (key f r.end_)<0))
theorem zxh (f:Forest) (r:Range) (h:Int) (hf:Fit f.nodes.l) (hr:zaI f.nodes.l) (hg:isRg f.nodes.l r) (hh:isN f.nodes.l h):pc prog 142 [zac f,zaP r,.int .i64 h]=some (.bool (whB f.nodes.l r h)):=by
 refine zJH f r h _ ?_
 unfold zJG whB
 rw[zht f _ _ hf hr hh hg.s.1,zav (e:=D.bool),Option.bind_some]
 by_cases ho:root f.nodes.l h=root f.nodes.l r.start.node
 ·rw[if_pos (by simpa using ho),(zej f ⟨h,0⟩ r.start hf hr hh hg.s.1 ho).1,zav (e:=D.int .i64),Option.bind_some,decide_eq_true ho,Bool.true_and]
  by_cases h1:0<cmpL (key f.nodes.l ⟨h,0⟩) (key f.nodes.l r.start)
  ·rw[if_pos (by simpa using h1),zlB f h hf,zav (e:=D.int .i64),Option.bind_some,(zej f ⟨h,(zfm f.nodes.l h:Nat)⟩ r.end_ hf hr hh hg.e.1 (ho.trans hg.one)).1,zav (e:=D.int .i64),Option.bind_some,decide_eq_true h1,Bool.true_and]
  ·rw[if_neg (by simpa using h1),decide_eq_false h1,Bool.false_and]
 ·rw[if_neg (by simpa using ho),decide_eq_false ho,Bool.false_and]
def paB (f:List Node) (r:Range) (h:Int):Bool:= !(decide (h∈anc f r.start.node)==decide (h∈anc f r.end_.node))
theorem zAq (f:Forest) (r:Range) (h:Int) (hf:Fit f.nodes.l) (hr:zaI f.nodes.l) (hg:isRg f.nodes.l r):pc prog 143 [zac f,zaP r,.int .i64 h]=some (.bool (paB f.nodes.l r h)):=by
 refine zJJ f r h _ ?_
 unfold zJI paB
 rw[znz f h _ hf hr (.inr hg.s.1),znz f h _ hf hr (.inr hg.e.1),zav (e:=D.bool),zav (e:=D.bool),Option.bind_some,Option.bind_some]
noncomputable def zHl (f:List Node) (r:Range) (h:Int):Bool×Bool×Int:=if wrR f r [] [h]=0 then(whB f r h,paB f r h,0)else(false,false,wrR f r [] [h])
theorem znG (f:Forest) (r:Range) (h:Int) (hf:Fit f.nodes.l):pc prog 71 [zac f,zaP r,.int .i64 h]=some (eT3 D.bool D.bool (D.int .i64) (zHl f.nodes.l r h)):=by
 have hq:pc prog 139 [zac f,zaP r,.list true [],.list false (([h]).map (D.int .i64))]=some (.int .i64 (wrR f.nodes.l r [] [h])):=zjr f r ⟨true,[]⟩ ⟨false,[h]⟩ hf (by simp) (by simp)
 refine zKG f r h _ ?_
 unfold P71 zHl
 rw[hq,zav (e:=D.int .i64),Option.bind_some]
 by_cases h0:wrR f.nodes.l r [] [h]=0
 ·obtain⟨hr,hg,_,h1⟩:=zlH.1 h0
  rw[if_neg (by simp[h0]),if_pos h0,zxh f r h hf hr hg (h1 h (by simp)),zAq f r h hf hr hg,zav (e:=D.bool),zav (e:=D.bool),Option.bind_some,Option.bind_some]
 ·rw[if_pos (by simpa using h0),if_neg h0]
theorem zpt (f:Forest) (r:Range) (b:Bound) (hf:Fit f.nodes.l) (hr:zaI f.nodes.l) (hg:isRg f.nodes.l r) (hb:isPt f.nodes.l b) (ho:root f.nodes.l r.start.node=root f.nodes.l b.node) (h1:cmpL (key f.nodes.l r.start) (key f.nodes.l b)≤0) (h2:cmpL (key f.nodes.l b) (key f.nodes.l r.end_)≤0):pc prog 75 [zac f,zaP r,zai b]=some (eT2 (D.int .i64) (D.int .i64) (0,0)):=by
 have h0:wrR f.nodes.l r [b] []=0:=zlH.2 ⟨hr,hg,fun x hx=>by rw[List.mem_singleton.1 hx];exact hb,fun x hx=>by cases hx⟩
 have hq:pc prog 139 [zac f,zaP r,.list false (([b]).map zai),.list true []]=some (.int .i64 (wrR f.nodes.l r [b] [])):=zjr f r ⟨false,[b]⟩ ⟨true,[]⟩ hf (by simp) (by simp)
 have hsw:=zbx (key f.nodes.l r.start) (key f.nodes.l b)
 refine zKH f r b _ ?_
 unfold P75
 rw[hq,zav (e:=D.int .i64),Option.bind_some,if_neg (by simp[h0]),zht f _ _ hf hr hg.s.1 hb.1,zav (e:=D.bool),Option.bind_some,if_neg (by simpa using ho),(zej f b r.start hf hr hb.1 hg.s.1 ho.symm).1,zav (e:=D.int .i64),Option.bind_some,if_neg (by simp;omega),(zej f b r.end_ hf hr hb.1 hg.e.1 (ho.symm.trans hg.one)).1,zav (e:=D.int .i64),Option.bind_some,if_neg (by simp;omega)]
theorem zjA (f:Forest) (r:Range) (h:Int) (_:Forest.ok f) (_:Range.ok r) (_:IntKind.i64.min≤h∧h≤IntKind.i64.max) (hb:D.bulkAll [zac f,zaP r,.int .i64 h]≤1048576):pc prog 17 [zac f,zaP r,.int .i64 h]=some (.bool true):=by
 have hf:Fit f.nodes.l:=zqB hb
 refine zKD f r h _ ?_
 unfold P17
 rw[zxc,zav (e:=D.bool),Option.bind_some,if_neg (by simp),znG f r h hf,zav (e:=eT3 D.bool D.bool (D.int .i64)),Option.bind_some]
 by_cases h0:wrR f.nodes.l r [] [h]=0
 case neg=>
  unfold zHl
  rw[if_neg h0,if_pos (by simpa using h0)];rfl
 obtain⟨hr,hg,_,hN⟩:=zlH.1 h0
 have hh:=hN h (by simp)
 have hc:zHl f.nodes.l r h=(whB f.nodes.l r h,paB f.nodes.l r h,0):=by unfold zHl;rw[if_pos h0]
 rw[hc,if_neg (by simp),zpt f r r.start hf hr hg hg.s rfl (by rw[zbU];omega) hg.le,zpt f r r.end_ hf hr hg hg.e hg.one hg.le (by rw[zbU];omega)]
 simp only[zav (e:=eT2 (D.int .i64) (D.int .i64)),Option.bind_some]
 cases hw:whB f.nodes.l r h with
 |false=>rw[if_neg (by simp)];rfl
 |true=>
  unfold whB at hw
  simp only[Bool.and_eq_true,decide_eq_true_eq]at hw
  obtain⟨ho,w1,w2⟩:=hw
  have hsw:=zbx (key f.nodes.l ⟨h,0⟩) (key f.nodes.l r.start)
  have s0:cmpL (key f.nodes.l r.start) (key f.nodes.l ⟨h,0⟩)<0:=by omega
  have n1:h∉anc f.nodes.l r.start.node:=fun hm=>by
   have:=znF hr hh ((zfQ hr h hh r.start).2 ⟨hm,hg.s.2⟩)
   omega
  have n2:h∉anc f.nodes.l r.end_.node:=fun hm=>by
   have:=zlG hr hh ((zfQ hr h hh r.end_).2 ⟨hm,hg.e.2⟩)
   have:=zbx (key f.nodes.l r.end_) (key f.nodes.l ⟨h,(zfm f.nodes.l h:Nat)⟩)
   omega
  have hp:paB f.nodes.l r h=false:=by unfold paB;rw[decide_eq_false n1,decide_eq_false n2];rfl
  have hfh:zcD f.nodes.l [h]=0:=zdQ.2 ⟨hr,by simpa using hh⟩
  have hwk:zgC f.nodes.l h=(⟨false,zem f.nodes.l h⟩,0):=by unfold zgC;rw[if_pos hfh]
  have hin:∀b∈zem f.nodes.l h,pc prog 75 [zac f,zaP r,zai b]=some (eT2 (D.int .i64) (D.int .i64) (0,0)):=fun b hbm=>by
   obtain⟨p1,p2⟩:=zxd hr hh hbm
   have q1:=zgD s0 (znF hr hh hbm)
   have q2:=zxe (zlG hr hh hbm) w2
   exact zpt f r b hf hr hg p1 (ho.symm.trans p2) (by omega) (by omega)
  have hpl:=zpq hr hh
  have hloop:zaT (zce f r h (zgC f.nodes.l h)) 0=some (.inl ()):=by
   rw[hwk]
   have key:∀m k:Nat,40≤k+m→zaT (zce f r h (⟨false,zem f.nodes.l h⟩,0)) (k:Int)=some (.inl ()):=by
    intro m
    induction m with
    |zero=>
     intro k hk
     refine zaM ?_
     simp only[zce]
     rw[if_neg]
     rw[decide_eq_false (show ¬((k:Int)<40) by omega)];cases decide ((k:Int)<((zem f.nodes.l h).length:Int))<;>simp
    |succ m ih=>
     intro k hk
     by_cases hlt:k<(zem f.nodes.l h).length∧k<40
     ·rw[zaY (y:=((k+1:Nat):Int))]
      ·exact ih (k+1) (by omega)
      ·simp only[zce]
       rw[if_pos (by rw[decide_eq_true (show((k:Nat):Int)<((zem f.nodes.l h).length:Int) by omega),decide_eq_true (show((k:Nat):Int)<40 by omega)];rfl),zdq hlt.1,Option.bind_some,hin _ (List.getElem_mem hlt.1),zav (e:=eT2 (D.int .i64) (D.int .i64)),Option.bind_some,if_neg (by simp),zbc (show k<2^62 by omega)]
     ·refine zaM ?_
      simp only[zce]
      rw[if_neg]
      by_cases h4:k<(zem f.nodes.l h).length
      ·rw[decide_eq_false (show ¬((k:Int)<40) by omega)];cases decide ((k:Int)<((zem f.nodes.l h).length:Int))<;>simp
      ·rw[decide_eq_false (show ¬((k:Int)<((zem f.nodes.l h).length:Int)) by omega)];simp
   exact key 40 0 (by omega)
  have hq:pc prog 139 [zac f,zaP r,.list true [],.list false (([h]).map (D.int .i64))]=some (.int .i64 (wrR f.nodes.l r [] [h])):=zjr f r ⟨true,[]⟩ ⟨false,[h]⟩ hf (by simp) (by simp)
  have hmeets:pc prog 76 [zac f,zaP r,.int .i64 h]=some (eT2 D.bool (D.int .i64) (true,0)):=by
   refine zKI f r h _ ?_
   unfold P76
   rw[hq,zav (e:=D.int .i64),Option.bind_some,if_neg (by simp[h0]),zhH f h hf.1,zav (e:=zap),Option.bind_some,zht f _ _ hf hr hh hg.s.1,zav (e:=D.bool),Option.bind_some,if_neg (by simpa using ho)]
   by_cases hp0:(nodeD f.nodes.l h).parent=0
   ·rw[if_pos (by simpa using hp0)]
   ·have hp0':par f.nodes.l h≠0:=hp0
    obtain⟨_,pN,_,_⟩:=zdP hr hp0'
    have hrp:root f.nodes.l (par f.nodes.l h)=root f.nodes.l h:=(zih hr hp0').symm
    have ka:=zxf hr hh 0 (by omega)
    have z1:=zgD ka.1 (zlG hr hh ((zfQ hr h hh ⟨h,0⟩).2 ⟨zdt hr hh,by simp,by simp⟩))
    have z2:=zgD z1 (by omega:cmpL (key f.nodes.l ⟨h,(zfm f.nodes.l h:Nat)⟩) (key f.nodes.l r.end_)≤0)
    have z3:=zgD s0 (by omega:cmpL (key f.nodes.l ⟨h,0⟩) (key f.nodes.l ⟨par f.nodes.l h,plc f.nodes.l h+1⟩)≤0)
    have z4:=zbx (key f.nodes.l r.start) (key f.nodes.l ⟨par f.nodes.l h,plc f.nodes.l h+1⟩)
    have hpl0:0≤plc f.nodes.l h∧plc f.nodes.l h≤2^40:=by
     unfold plc
     have:=zGB (l:=kidsL f.nodes.l (par f.nodes.l h)) (x:=h)
     have:=zig hf (par f.nodes.l h)
     unfold kidsL at*
     omega
    have hw1:IntKind.wrap .i64 (plc f.nodes.l h+1)=plc f.nodes.l h+1:=w64 (by omega) (by omega)
    rw[if_neg (by simpa using hp0),zny f h hf,zav (e:=D.int .i64),Option.bind_some,(zej f ⟨(nodeD f.nodes.l h).parent,plc f.nodes.l h⟩ r.end_ hf hr pN hg.e.1 (hrp.trans (ho.trans hg.one))).1,zav (e:=D.int .i64),Option.bind_some,if_pos (show decide (cmpL (key f.nodes.l ⟨(nodeD f.nodes.l h).parent,plc f.nodes.l h⟩) (key f.nodes.l r.end_)<0)=true from decide_eq_true z2),hw1,(zej f ⟨(nodeD f.nodes.l h).parent,plc f.nodes.l h+1⟩ r.start hf hr pN hg.s.1 (hrp.trans ho)).1,zav (e:=D.int .i64),Option.bind_some]
    have:decide (0<cmpL (key f.nodes.l ⟨(nodeD f.nodes.l h).parent,plc f.nodes.l h+1⟩) (key f.nodes.l r.start))=true:=decide_eq_true (by show 0<cmpL (key f.nodes.l ⟨par f.nodes.l h,plc f.nodes.l h+1⟩) (key f.nodes.l r.start);omega)
    rw[this]
  rw[hp,if_neg (by simp),if_neg (by simp),zqD f h hf,zav (e:=eT2 (eSl zai) (D.int .i64)),Option.bind_some,hloop,Option.bind_some,hmeets,zav (e:=eT2 D.bool (D.int .i64)),Option.bind_some,hwk]
  rfl
end Go.Proofs.Ytfleilibjdgcjaa.B
