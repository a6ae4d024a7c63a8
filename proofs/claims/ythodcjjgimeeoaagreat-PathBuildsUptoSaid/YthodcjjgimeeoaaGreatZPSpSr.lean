/- Shaken copy of a longer text: what one law needs. Its conditions: none. -/
import Derived.Test.YthodcjjgimeeoaaGreatZPSpSh
import Derived.Test.YthodcjjgimeeoaaGreatZPDecQ
set_option linter.unusedSimpArgs false
set_option linter.unusedVariables false
set_option linter.unusedSimpArgs false
set_option linter.unusedVariables false
set_option linter.unusedSectionVars false
set_option linter.unnecessarySimpa false
namespace Go.Proofs.YthodcjjgimeeoaaGreat.P
open Go.AI
theorem zeU (f:Forest) (h:Int) (hf:Fit f.nodes.l) (hh:isN f.nodes.l h):pc prog 82 [zaa f,.int .i64 h]=some (.bool (zcY (nodeD f.nodes.l h))):=by
 refine zRf f h _ ?_
 unfold P82 zcY zAs zkZ
 rw[zdk f h hf.1 hh,zap (e:=zao),Option.bind_some]
 simp only[zpU]
theorem zhU (f:Forest) (h:Int) (hf:Fit f.nodes.l) (hh:isN f.nodes.l h):pc prog 85 [zaa f,.int .i64 h]=some (.bool (zaZ (nodeD f.nodes.l h).kind)):=by
 refine zRg f h _ ?_
 unfold P85 zaZ
 rw[zdk f h hf.1 hh,zap (e:=zao),Option.bind_some]
 simp only[bor]
theorem zmj (f:Forest) (h:Int) (s:List UInt8) (hf:Fit f.nodes.l) (hh:isN f.nodes.l h):pc prog 115 [zaa f,.int .i64 h,.str s]=some (.str (zfI (nodeD f.nodes.l h) s)):=by
 refine zQa f h s _ ?_
 unfold zPZ zfI
 rw[zdk f h hf.1 hh,zap (e:=zao),Option.bind_some,zsT _ _ (zle hf h),zap (e:=D.int .i64),Option.bind_some]
 have hp:(fun a:Attr=>a.name.space==[]&&a.name.local_==s)=zfE ⟨[],[],s⟩:=rfl
 rw[hp]
 generalize (nodeD f.nodes.l h).attrs.l=l
 rcases hx:l.findIdx? (zfE ⟨[],[],s⟩)with _|k
 ·have:l.find? (zfE ⟨[],[],s⟩)=none:=by
   rw[List.findIdx?_eq_none_iff]at hx
   rw[List.find?_eq_none]
   intro x hm;rw[hx x hm];simp
  rw[this,if_pos (by decide)]
 ·rw[List.findIdx?_eq_some_iff_getElem]at hx
  obtain⟨g1,g2,g3⟩:=hx
  have:l.find? (zfE ⟨[],[],s⟩)=some l[k]:=List.find?_eq_some_iff_getElem.2 ⟨g2,k,g1,rfl,fun j hj=>by simpa using g3 j hj⟩
  rw[this,if_neg (by simp),zbd g1,Option.bind_some]
theorem zvG (f:Forest) (h:Int) (hf:Fit f.nodes.l) (hh:isN f.nodes.l h):pc prog 116 [zaa f,.int .i64 h]=some (.str (if((nodeD f.nodes.l h).kind==1)=true then zfI (nodeD f.nodes.l h) zkZ else[])):=by
 refine zQc f h _ ?_
 unfold zQb
 rw[zdk f h hf.1 hh,zap (e:=zao),Option.bind_some]
 by_cases hk:((nodeD f.nodes.l h).kind==1)=true
 ·rw[if_neg (by simp[hk]),if_pos hk,show([115,108,111,116]:List UInt8)=zkZ from rfl,zmj f h zkZ hf hh,zap (e:=D.str),Option.bind_some]
 ·rw[if_pos (by simpa using hk),if_neg hk]
theorem zAD (hand:Sl Assign) (x:Int) (hh:zkb hand.l):pc prog 88 [.list hand.n (hand.l.map zai),.int .i64 x]=some (eSl (D.int .i64) (zld hand.l x)):=by
 refine zRh hand x _ ?_
 unfold P88
 rw[ziR (l:=hand.l) (fun y=>y.slot==x) (fun y=>Sum.inr y.nodes) (Sum.inl ()) ?_ ?_,Option.bind_some]
 ·unfold zld
  rcases hx:hand.l.find? (fun y=>y.slot==x)with _|y<;>simp only[hx]
 ·intro k hk
  have hw:=zaK (show k<2^62 by have:=hh.1;omega)
  simp only[zeT,zbd hk,Option.bind_some,hw]
  rw[if_pos (decide_eq_true (by omega))]
  split<;>rfl
 ·simp only[zeT]
  rw[if_neg (by simp)]
theorem zvH (f:Forest) (s:Int) (hf:Fit f.nodes.l) (hr:zaJ f.nodes.l) (hs:isN f.nodes.l s):pc prog 114 [zaa f,.int .i64 s]=some (eSl (D.int .i64) ⟨((zdw f.nodes.l s).filter fun x=>zcY (nodeD f.nodes.l x)).isEmpty,(zdw f.nodes.l s).filter fun x=>zcY (nodeD f.nodes.l x)⟩):=by
 refine zPY f s _ ?_
 unfold zPX
 have hroom:AI.roomBytes=2^46:=rfl
 have hlen:=zry hr hs
 have h40:=hr.1
 rw[zAn f hf hr s hs,zap (e:=eSl (D.int .i64)),Option.bind_some]
 have key:∀n k,k+n=(zdw f.nodes.l s).length→∀acc:List Int,acc.length+n≤2^40→zaL (zcs f ⟨false,zdw f.nodes.l s⟩) (acc,(k:Int))=some (acc++((zdw f.nodes.l s).drop k).filter fun x=>zcY (nodeD f.nodes.l x)):=by
  intro n
  induction n with
  |zero=>
   intro k hk acc _
   obtain rfl:k=(zdw f.nodes.l s).length:=by omega
   rw[List.drop_length]
   refine zau ?_
   simp only[zcs]
   rw[if_neg (by simp)]
   simp
  |succ n ih=>
   intro k hk acc ha
   have hl:k<(zdw f.nodes.l s).length:=by omega
   have hw:=zaK (show k<2^62 by omega)
   have hN:isN f.nodes.l (zdw f.nodes.l s)[k]:=(zkW hr _ ((znq hr hs).1 (List.getElem_mem hl))).2
   rw[List.drop_eq_getElem_cons hl,List.filter_cons]
   have hrd:rd (zdw f.nodes.l s) (k:Int)=some (zdw f.nodes.l s)[k]:=zbd hl
   by_cases hb:zcY (nodeD f.nodes.l (zdw f.nodes.l s)[k])=true
   ·rw[if_pos hb,zaC (y:=(acc++[(zdw f.nodes.l s)[k]],((k+1:Nat):Int)))]
    ·rw[ih (k+1) (by omega) _ (by simp;omega)];simp
    ·simp only[zcs,hrd,Option.bind_some,hw,zeU f _ hf hN,zap (e:=D.bool)]
     rw[if_pos (decide_eq_true (by omega)),if_pos hb,if_pos (by rw[hroom];omega)]
   ·rw[if_neg hb,zaC (y:=(acc,((k+1:Nat):Int)))]
    ·exact ih (k+1) (by omega) _ (by omega)
    ·simp only[zcs,hrd,Option.bind_some,hw,zeU f _ hf hN,zap (e:=D.bool)]
     rw[if_pos (decide_eq_true (by omega)),if_neg hb]
 have:=key (zdw f.nodes.l s).length 0 (by omega) [] (by simp;omega)
 rw[show((0:Nat):Int)=0 from rfl,List.drop_zero,List.nil_append]at this
 rw[this,Option.bind_some]
theorem zvI (f:Forest) (hand:Sl Assign) (h:Int) (hf:Fit f.nodes.l) (hr:zaJ f.nodes.l) (hh:zkb hand.l) (hi:isN f.nodes.l h):pc prog 89 [zaa f,.list hand.n (hand.l.map zai),.int .i64 h]=some (eT2 (D.int .i64) (D.int .i64) (zbQ f.nodes.l hand.l h)):=by
 refine zRi f hand h _ ?_
 unfold P89 zbQ
 rw[zdk f h hf.1 hi,zap (e:=zao),Option.bind_some,zhU f h hf hi,zap (e:=D.bool),Option.bind_some]
 rw[show(nodeD f.nodes.l h).parent=par f.nodes.l h from rfl]
 by_cases hc:zaZ (nodeD f.nodes.l h).kind=true∧(nodeD f.nodes.l (par f.nodes.l h)).shadow≠0
 ·obtain⟨h1,h2,h3⟩:=zci hr hc.2
  have hp0:par f.nodes.l h≠0:=fun e=>zbr (e▸h1)
  have hlen:=zry hr h2
  have h40:=hr.1
  have e1:(if(!(bif (!zaZ (nodeD f.nodes.l h).kind)then true else(par f.nodes.l h==0)))=true then((dec zao (pc prog 86 [zaa f,.int .i64 (par f.nodes.l h)])).bind fun r7=>some (r7.shadow==0))else some true)=some false:=by
   rw[if_pos (by rw[hc.1];simpa using hp0),zdk f _ hf.1 h1,zap (e:=zao),Option.bind_some]
   congr 1
   simpa using hc.2
  rw[e1,Option.bind_some,if_neg (by simp),if_pos hc,zdk f _ hf.1 h1,zap (e:=zao),Option.bind_some,zdk f _ hf.1 h2,zap (e:=zao),Option.bind_some,zvH f _ hf hr h2,zap (e:=eSl (D.int .i64)),Option.bind_some]
  have hff:(zdw f.nodes.l (nodeD f.nodes.l (par f.nodes.l h)).shadow).find? (fun x=>zcY (nodeD f.nodes.l x)&&zeM f.nodes.l hand.l x h (nodeD f.nodes.l (nodeD f.nodes.l (par f.nodes.l h)).shadow).manual)=((zdw f.nodes.l (nodeD f.nodes.l (par f.nodes.l h)).shadow).filter fun x=>zcY (nodeD f.nodes.l x)).find? (fun x=>zeM f.nodes.l hand.l x h (nodeD f.nodes.l (nodeD f.nodes.l (par f.nodes.l h)).shadow).manual):=by
   generalize zdw f.nodes.l (nodeD f.nodes.l (par f.nodes.l h)).shadow=l
   induction l with
   |nil=>rfl
   |cons a l ih=>
    rw[List.find?_cons,List.filter_cons]
    cases hs:zcY (nodeD f.nodes.l a)
    ·simpa using ih
    ·simp only[Bool.true_and,if_true,List.find?_cons]
     cases zeM f.nodes.l hand.l a h (nodeD f.nodes.l (nodeD f.nodes.l (par f.nodes.l h)).shadow).manual
     ·exact ih
     ·rfl
  rw[hff]
  have hsub:∀x∈(zdw f.nodes.l (nodeD f.nodes.l (par f.nodes.l h)).shadow).filter (fun x=>zcY (nodeD f.nodes.l x)),isN f.nodes.l x:=fun x hx=>(zkW hr _ ((znq hr h2).1 (List.mem_filter.1 hx).1)).2
  have hll:((zdw f.nodes.l (nodeD f.nodes.l (par f.nodes.l h)).shadow).filter (fun x=>zcY (nodeD f.nodes.l x))).length≤4096:=Nat.le_trans (List.length_filter_le _ _) (by omega)
  generalize (zdw f.nodes.l (nodeD f.nodes.l (par f.nodes.l h)).shadow).filter (fun x=>zcY (nodeD f.nodes.l x))=l at hsub hll⊢
  generalize (nodeD f.nodes.l (nodeD f.nodes.l (par f.nodes.l h)).shadow).manual=m
  generalize hS:nodeD f.nodes.l (par f.nodes.l h)=nd
  have key:∀n k,k+n=l.length→zaL (zcE f hand h nd ⟨l.isEmpty,l⟩) (m,(k:Int))=some (match(l.drop k).find? (fun x=>zeM f.nodes.l hand.l x h m)with|some x=> .inr x|none=> .inl ()):=by
   intro n
   induction n with
   |zero=>
    intro k hk
    obtain rfl:k=l.length:=by omega
    rw[List.drop_length]
    refine zau ?_
    simp only[zcE]
    rw[if_neg (by simp)];rfl
   |succ n ih=>
    intro k hk
    have hl:k<l.length:=by omega
    have hw:=zaK (show k<2^62 by omega)
    have hN:=hsub _ (List.getElem_mem hl)
    have hrd:rd l (k:Int)=some l[k]:=zbd hl
    rw[List.drop_eq_getElem_cons hl,List.find?_cons]
    have hstep:zcE f hand h nd ⟨l.isEmpty,l⟩ (m,(k:Int))=some (if zeM f.nodes.l hand.l l[k] h m=true then .inr (.inr l[k])else .inl (m,((k+1:Nat):Int))):=by
     cases m with
     |true=>
      simp only[zcE,hrd,Option.bind_some,hw,zAD hand _ hh,zap (e:=eSl (D.int .i64)),zhh (zld hand.l l[k]) h (by rw[zkc];exact zpK hh _),zap (e:=D.int .i64)]
      rw[if_pos (decide_eq_true (by omega)),if_pos trivial]
      unfold zeM
      rw[if_pos rfl,zkc]
      have:decide (0≤idx (zfH hand.l l[k]) h)=(zfH hand.l l[k]).contains h:=by
       rw[Bool.eq_iff_iff,decide_eq_true_iff,ziL,List.contains_iff_mem]
      rw[this]
      cases(zfH hand.l l[k]).contains h<;>rfl
     |false=>
      simp only[zcE,hrd,Option.bind_some,hw,zmj f _ _ hf hN,zvG f h hf hi,zap (e:=D.str)]
      rw[if_pos (decide_eq_true (by omega)),if_neg (by simp)]
      have e:zeM f.nodes.l hand.l l[k] h false=(zfI (nodeD f.nodes.l l[k]) zEp==(if((nodeD f.nodes.l h).kind==1)=true then zfI (nodeD f.nodes.l h) zkZ else[])):=by
       unfold zeM;rw[if_neg (by simp)]
      rw[e,show([110,97,109,101]:List UInt8)=zEp from rfl]
      generalize (zfI (nodeD f.nodes.l l[k]) zEp==(if((nodeD f.nodes.l h).kind==1)=true then zfI (nodeD f.nodes.l h) zkZ else[]))=b
      cases b<;>rfl
    rcases hfb:zeM f.nodes.l hand.l l[k] h m with _|_
    ·rw[hfb,if_neg (by simp)]at hstep
     rw[zaC hstep]
     exact ih (k+1) (by omega)
    ·rw[hfb,if_pos rfl]at hstep
     exact zau hstep
  have:=key l.length 0 (by omega)
  rw[show((0:Nat):Int)=0 from rfl,List.drop_zero]at this
  rw[this,Option.bind_some]
  rcases hx:l.find? (fun x=>zeM f.nodes.l hand.l x h m)with _|x<;>simp only[hx]
 ·rw[if_neg hc]
  have e1:(if(!(bif (!zaZ (nodeD f.nodes.l h).kind)then true else(par f.nodes.l h==0)))=true then((dec zao (pc prog 86 [zaa f,.int .i64 (par f.nodes.l h)])).bind fun r7=>some (r7.shadow==0))else some true)=some true:=by
   rcases h1:zaZ (nodeD f.nodes.l h).kind with _|_
   ·rw[if_neg (by simp)]
   ·by_cases h0:par f.nodes.l h=0
    ·rw[if_neg (by simp[h0])]
    ·have hz:(nodeD f.nodes.l (par f.nodes.l h)).shadow=0:=Classical.byContradiction fun h2=>hc ⟨h1,h2⟩
     rw[if_pos (by simpa using h0),zdk f _ hf.1 (zem hr h0).2.1,zap (e:=zao),Option.bind_some,hz];rfl
  rw[e1,Option.bind_some,if_pos rfl]
theorem zEO (hand:Sl Assign) (hh:zkb hand.l):pc prog 68 [.list hand.n (hand.l.map zai)]=some (.bool (zfJ hand.l)):=by
 refine zQY hand _ ?_
 unfold P68
 rw[zgo (l:=hand.l) (fun x=>decide (4096<x.nodes.l.length)) (Sum.inr ()) (Sum.inl ()) ?_ ?_,Option.bind_some]
 ·unfold zfJ
  rw[show decide ((4096:Int)<(hand.l.length:Int))=decide (4096<hand.l.length) by rw[decide_eq_decide];omega]
  cases hand.l.any (fun x=>decide (4096<x.nodes.l.length))<;>simp
 ·intro k hk
  have hw:=zaK (show k<2^62 by have:=hh.1;omega)
  simp only[zeS,zbd hk,Option.bind_some]
  rw[if_pos (decide_eq_true (by omega)),hw,show decide ((4096:Int)<(hand.l[k].nodes.l.length:Int))=decide (4096<hand.l[k].nodes.l.length) by rw[decide_eq_decide];omega]
  split<;>rfl
 ·simp only[zeS]
  rw[if_neg (by simp)]
def zbZ (hand:List Assign):List Int:=hand.flatMap fun x=>x.slot::x.nodes.l
theorem zrG (hand:Sl Assign) (hm:zfJ hand.l=false):∃n,pc prog 69 [.list hand.n (hand.l.map zai)]=some (eSl (D.int .i64) ⟨n,zbZ hand.l⟩):=by
 have hroom:AI.roomBytes=2^46:=rfl
 unfold zfJ at hm
 rw[Bool.or_eq_false_iff,List.any_eq_false]at hm
 obtain⟨hm1,hm2⟩:=hm
 have hm1:hand.l.length≤4096:=by have:=of_decide_eq_false hm1;omega
 have hm2:∀x∈hand.l,x.nodes.l.length≤4096:=fun x hx=>by have:=hm2 x hx;simp at this;omega
 refine⟨(zbZ hand.l).isEmpty,zQZ hand _ ?_⟩
 unfold P69
 have key:∀n k,k+n=hand.l.length→∀acc:List Int,acc.length≤k*4097→zaL (zdz hand) (acc,(k:Int))=some (acc++zbZ (hand.l.drop k)):=by
  intro n
  induction n with
  |zero=>
   intro k hk acc _
   obtain rfl:k=hand.l.length:=by omega
   rw[List.drop_length]
   refine zau ?_
   simp only[zdz]
   rw[if_neg (by simp)]
   simp[zbZ]
  |succ n ih=>
   intro k hk acc ha
   have hl:k<hand.l.length:=by omega
   have hw:=zaK (show k<2^62 by omega)
   have h2:=hm2 _ (List.getElem_mem hl)
   rw[List.drop_eq_getElem_cons hl]
   have e:zbZ (hand.l[k]::hand.l.drop (k+1))=(hand.l[k].slot::hand.l[k].nodes.l)++zbZ (hand.l.drop (k+1)):=rfl
   rw[e,zaC (y:=(acc++(hand.l[k].slot::hand.l[k].nodes.l),((k+1:Nat):Int)))]
   ·rw[ih (k+1) (by omega) _ (by simp;omega),List.append_assoc]
   ·simp only[zdz,zbd hl,Option.bind_some,hw]
    rw[if_pos (decide_eq_true (by omega)),if_pos (by rw[hroom];omega)]
    by_cases hz:hand.l[k].nodes.l=[]
    ·rw[if_pos hz,hz]
    ·rw[if_neg hz,if_pos (by rw[hroom];simp;omega),List.append_assoc];rfl
 have:=key hand.l.length 0 (by omega) [] (by simp)
 rw[show((0:Nat):Int)=0 from rfl,List.drop_zero,List.nil_append]at this
 rw[this,Option.bind_some]
theorem zvJ {f:List Node} {hand:List Assign}:(zbZ hand).all (fun h=>decide (isN f h))=zvD f hand:=by
 unfold zbZ zvD
 induction hand with
 |nil=>rfl
 |cons a l ih=>rw[List.flatMap_cons,List.all_append,List.all_cons,ih];rfl
theorem zrH {hand:List Assign} (hm:zfJ hand=false):(zbZ hand).length≤2^40:=by
 unfold zfJ at hm
 rw[Bool.or_eq_false_iff,List.any_eq_false]at hm
 obtain⟨hm1,hm2⟩:=hm
 have hm1:hand.length≤4096:=by have:=of_decide_eq_false hm1;omega
 have hm2:∀x∈hand,x.nodes.l.length≤4096:=fun x hx=>by have:=hm2 x hx;simp at this;omega
 have:∀l:List Assign,(∀x∈l,x.nodes.l.length≤4096)→(zbZ l).length≤l.length*4097:=by
  intro l
  induction l with
  |nil=>intro _;simp[zbZ]
  |cons a l ih=>
   intro h
   have h1:=h a List.mem_cons_self
   have h2:=ih fun x hx=>h x (List.mem_cons_of_mem _ hx)
   unfold zbZ at h2⊢
   rw[List.flatMap_cons,List.length_append,List.length_cons,List.length_cons];omega
 have:=this hand hm2
 omega
def zvK (m s:List Int):Prop:=∀k,m.contains k=s.contains k
theorem zpR {m s:List Int} (h:zvK m s) (x:Int):zvK (m++[x]) (x::s):=fun k=>by
 rw[List.contains_cons,←h k,Bool.eq_iff_iff]
 simp only[List.contains_iff_mem,List.mem_append,List.mem_singleton,Bool.or_eq_true,beq_iff_eq]
 exact⟨fun h=>h.elim .inr .inl,fun h=>h.elim .inr .inl⟩
theorem zjq {l:List Int} {x:Int}:decide (0≤idx l x)=l.contains x:=by
 rw[Bool.eq_iff_iff,decide_eq_true_iff,ziL,List.contains_iff_mem]
theorem zAE (f:Forest) (hand:Sl Assign) (hf:Fit f.nodes.l) (x0:List Int×List Int×Int) (y:Assign) (hy:y.nodes.l.length≤4096) (hrd:rd hand.l x0.2.2=some y) (hok:∀h∈y.nodes.l,isN f.nodes.l h):∀n k,k+n=y.nodes.l.length→∀(m s:List Int),zvK m s→m.length+n≤2^39→
 (zev f.nodes.l s (y.nodes.l.drop k)=none∧zaL (zcB f hand x0 y) (m,(k:Int))=some (.inr ()))∨∃s' m',zev f.nodes.l s (y.nodes.l.drop k)=some s'∧zaL (zcB f hand x0 y) (m,(k:Int))=some (.inl m')∧zvK m' s'∧m'.length≤m.length+n:=by
 have hroom:AI.roomBytes=2^46:=rfl
 intro n
 induction n with
 |zero=>
  intro k hk m s hm _
  obtain rfl:k=y.nodes.l.length:=by omega
  rw[List.drop_length]
  refine .inr ⟨s,m,rfl,zau ?_,hm,by omega⟩
  simp only[zcB,hrd,Option.bind_some]
  rw[if_neg (by simp)]
 |succ n ih=>
  intro k hk m s hm hb
  have hl:k<y.nodes.l.length:=by omega
  have hw:=zaK (show k<2^62 by omega)
  have hN:=hok _ (List.getElem_mem hl)
  rw[List.drop_eq_getElem_cons hl]
  have hpl:pc prog 108 [.list m.isEmpty (m.map (D.int .i64)),.int .i64 y.nodes.l[k]]=some (.int .i64 (idx m y.nodes.l[k])):=zhh ⟨m.isEmpty,m⟩ _ (by dsimp only;omega)
  have hstep:zcB f hand x0 y (m,(k:Int))=some (if(s.contains y.nodes.l[k]|| !zaZ (nodeD f.nodes.l y.nodes.l[k]).kind)=true then .inr (.inr ())else .inl (m++[y.nodes.l[k]],((k+1:Nat):Int))):=by
   simp only[zcB,hrd,zbd hl,Option.bind_some,hw,zhU f _ hf hN,zap (e:=D.bool),hpl,zap (e:=D.int .i64),zjq,hm y.nodes.l[k]]
   have hr:(m.length+1)*8≤AI.roomBytes:=by rw[hroom];omega
   rw[if_pos (decide_eq_true (by omega))]
   simp only[hr]
   cases s.contains y.nodes.l[k]<;>cases zaZ (nodeD f.nodes.l y.nodes.l[k]).kind<;>rfl
  by_cases hc:(s.contains y.nodes.l[k]|| !zaZ (nodeD f.nodes.l y.nodes.l[k]).kind)=true
  ·rw[if_pos hc]at hstep
   left
   exact⟨by rw[zev,if_pos hc],zau hstep⟩
  ·rw[if_neg hc]at hstep
   rw[zev,if_neg hc,zaC hstep]
   rcases ih (k+1) (by omega) _ _ (zpR hm _) (by simp;omega)with g|⟨s',m',g1,g2,g3,g4⟩
   ·exact .inl g
   ·exact .inr ⟨s',m',g1,g2,g3,by simp at g4;omega⟩
theorem zIa (f:Forest) (hand:Sl Assign) (hf:Fit f.nodes.l) (hl4:hand.l.length≤4096) (hn4:∀x∈hand.l,x.nodes.l.length≤4096) (hok:zvD f.nodes.l hand.l=true):∀n k,k+n=hand.l.length→∀(m1 m2:List Int) (s t:List Int),zvK m1 s→zvK m2 t→m1.length≤k→m2.length≤k*4096→
 zaL (zcC f hand) (m1,m2,(k:Int))=some (if zhT f.nodes.l s t (hand.l.drop k)=true then .inl ()else .inr ()):=by
 have hroom:AI.roomBytes=2^46:=rfl
 intro n
 induction n with
 |zero=>
  intro k hk m1 m2 s t h1 h2 _ _
  obtain rfl:k=hand.l.length:=by omega
  rw[List.drop_length,zhT,if_pos rfl]
  refine zau ?_
  simp only[zcC]
  rw[if_neg (by simp)]
 |succ n ih=>
  intro k hk m1 m2 s t h1 h2 b1 b2
  have hl:k<hand.l.length:=by omega
  have hw:=zaK (show k<2^62 by omega)
  have hx:=List.all_eq_true.1 hok _ (List.getElem_mem hl)
  have hx:=List.all_eq_true.1 hx
  have hsN:isN f.nodes.l hand.l[k].slot:=of_decide_eq_true (hx _ List.mem_cons_self)
  have hnN:∀h∈hand.l[k].nodes.l,isN f.nodes.l h:=fun h hm=>of_decide_eq_true (hx _ (List.mem_cons_of_mem _ hm))
  rw[List.drop_eq_getElem_cons hl,zhT]
  have hpl:pc prog 108 [.list m1.isEmpty (m1.map (D.int .i64)),.int .i64 hand.l[k].slot]=some (.int .i64 (idx m1 hand.l[k].slot)):=zhh ⟨m1.isEmpty,m1⟩ _ (by dsimp only;omega)
  have hin:=zAE f hand hf (m1,m2,(k:Int)) hand.l[k] (hn4 _ (List.getElem_mem hl)) (zbd hl) hnN hand.l[k].nodes.l.length 0 (by omega) m2 t h2 (by have:=hn4 _ (List.getElem_mem hl);omega)
  rw[List.drop_zero,show((0:Nat):Int)=0 from rfl]at hin
  have hfirst:(if zcY (nodeD f.nodes.l hand.l[k].slot)=true then some (decide (0≤idx m1 hand.l[k].slot))else some true)=some (s.contains hand.l[k].slot|| !zcY (nodeD f.nodes.l hand.l[k].slot)):=by
   rw[zjq,h1]
   cases zcY (nodeD f.nodes.l hand.l[k].slot)<;>cases s.contains hand.l[k].slot<;>rfl
  have hr:(m1.length+1)*8≤AI.roomBytes:=by rw[hroom];omega
  by_cases hc:(s.contains hand.l[k].slot|| !zcY (nodeD f.nodes.l hand.l[k].slot))=true
  ·rw[if_pos hc,if_neg (by simp)]
   refine zau ?_
   simp only[zcC,zbd hl,Option.bind_some,hw,zeU f _ hf hsN,zap (e:=D.bool),hpl,zap (e:=D.int .i64),hfirst]
   rw[if_pos (decide_eq_true (by omega)),if_pos hc]
  ·rw[if_neg hc]
   rcases hin with⟨g1,g2⟩|⟨t',m',g1,g2,g3,g4⟩
   ·rw[g1]
    dsimp only
    rw[if_neg (by simp)]
    refine zau ?_
    simp only[zcC,zbd hl,Option.bind_some,hw,zeU f _ hf hsN,zap (e:=D.bool),hpl,zap (e:=D.int .i64),hfirst,g2]
    rw[if_pos (decide_eq_true (by omega)),if_neg hc,if_pos hr]
   ·rw[g1]
    dsimp only
    rw[zaC (y:=(m1++[hand.l[k].slot],m',((k+1:Nat):Int)))]
    ·exact ih (k+1) (by omega) _ _ _ _ (zpR h1 _) g3 (by simp;omega) (by have:=hn4 _ (List.getElem_mem hl);omega)
    ·simp only[zcC,zbd hl,Option.bind_some,hw,zeU f _ hf hsN,zap (e:=D.bool),hpl,zap (e:=D.int .i64),hfirst,g2]
     rw[if_pos (decide_eq_true (by omega)),if_neg hc,if_pos hr]
theorem zrI (f:Forest) (hand:Sl Assign) (hf:Fit f.nodes.l) (hh:zkb hand.l):pc prog 28 [zaa f,.list hand.n (hand.l.map zai)]=some (.int .i64 (zlh f.nodes.l hand.l)):=by
 refine zQW f hand _ ?_
 unfold P28 zlh
 rw[zpz f hf,zap (e:=D.bool),Option.bind_some]
 by_cases hr:zfn f.nodes.l=true
 case neg=>rw[if_pos (by simpa using hr),if_neg hr]
 rw[if_neg (by simp[hr]),if_pos hr,zEO hand hh,zap (e:=D.bool),Option.bind_some]
 by_cases hm:zfJ hand.l=true
 ·rw[if_pos hm,if_pos hm]
 ·have hm':zfJ hand.l=false:=by simpa using hm
  rw[if_neg hm,if_neg hm]
  obtain⟨n,hn⟩:=zrG hand hm'
  rw[hn,zap (e:=eSl (D.int .i64)),Option.bind_some,zpB f ⟨n,zbZ hand.l⟩ hf (zrH hm'),zap (e:=D.int .i64),Option.bind_some]
  have e:zbH f.nodes.l (zbZ hand.l)=if zvD f.nodes.l hand.l=true then 0 else 2:=by
   unfold zbH
   rw[if_pos hr,zvJ]
  dsimp only
  rw[e]
  by_cases ho:zvD f.nodes.l hand.l=true
  ·rw[if_pos ho,if_pos ho,if_pos (by decide)]
   unfold zfJ at hm'
   rw[Bool.or_eq_false_iff,List.any_eq_false]at hm'
   obtain⟨hm1,hm2⟩:=hm'
   have hm1:hand.l.length≤4096:=by have:=of_decide_eq_false hm1;omega
   have hm2:∀x∈hand.l,x.nodes.l.length≤4096:=fun x hx=>by have:=hm2 x hx;simp at this;omega
   have hA:=zIa f hand hf hm1 hm2 ho hand.l.length 0 (by omega) [] [] [] [] (fun _=>rfl) (fun _=>rfl) (Nat.le_refl _) (by simp)
   rw[List.drop_zero,show((0:Nat):Int)=0 from rfl]at hA
   have hR:pc prog 70 [zaa f,.list hand.n (hand.l.map zai)]=some (.bool (zhT f.nodes.l [] [] hand.l)):=by
    refine zRa f hand _ ?_
    unfold P70
    rw[hA,Option.bind_some]
    cases zhT f.nodes.l [] [] hand.l<;>rfl
   rw[hR,zap (e:=D.bool),Option.bind_some]
   cases zhT f.nodes.l [] [] hand.l<;>rfl
  ·rw[if_neg ho,if_neg ho,if_neg (by decide)]
end Go.Proofs.YthodcjjgimeeoaaGreat.P
