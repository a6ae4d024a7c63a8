/- Shaken copy of a longer text: what one law needs. Its conditions: none. -/
import Derived.Test.YtfleilibjdgcjaaYVSpVw
set_option linter.unusedSimpArgs false
set_option linter.unusedVariables false
set_option linter.unusedSimpArgs false
set_option linter.unusedVariables false
set_option linter.unusedSectionVars false
set_option linter.unnecessarySimpa false
namespace Go.Proofs.Ytfleilibjdgcjaa.V
open Go.AI
theorem ziX:pc prog 23 []=some (.bool true):=zFF 60 (by kernel_rfl)
theorem zqZ {f:Forest} (h:Forest.ok f) (p:Int):(nodeD f.nodes.l p).kids.n=true→kidsL f.nodes.l p=[]:=by
 unfold kidsL nodeD
 rcases e:zcb f.nodes.l p with _|n
 ·intro _;rfl
 ·obtain⟨_,_,h3⟩:=zcc e
  have:=h.2 n (List.mem_of_getElem? h3)
  exact this.2.2.2.2.2.2.2.1.1
theorem zhW {f:List Node} {l m:List Int} (h:∀x,x∈l↔x∈m):zbg f l=zbg f m:=by
 unfold zbg
 have:(l.all fun h=>decide (isN f h))=(m.all fun h=>decide (isN f h)):=by
  rw[Bool.eq_iff_iff,List.all_eq_true,List.all_eq_true]
  exact⟨fun a x hx=>a x ((h x).2 hx),fun a x hx=>a x ((h x).1 hx)⟩
 rw[this]
def zcw (node parent child:Int):List Int:=if child=0 then[parent,node]else[parent,node,child]
noncomputable def zxQ (f:List Node) (node parent child:Int):Int:=if zbg f (zcw node parent child)=0 then zeS f parent node child false else zbg f (zcw node parent child)
noncomputable def zBs (f:List Node) (node parent child:Int):Int:=if zbg f [parent,node,child]=0 then zeS f parent node child true else zbg f [parent,node,child]
theorem zkY {f:List Node} {node parent child:Int} (h:zbg f (zcw node parent child)=0):zbK f∧isN f parent∧isN f node∧(child=0∨isN f child):=by
 obtain⟨hr,hl⟩:=zcd.1 h
 unfold zcw at hl
 by_cases h0:child=0
 ·rw[if_pos h0]at hl
  exact⟨hr,hl _ (by simp),hl _ (by simp),.inl h0⟩
 ·rw[if_neg h0]at hl
  exact⟨hr,hl _ (by simp),hl _ (by simp),.inr (hl _ (by simp))⟩
theorem zdb (f:Forest) (node parent child:Int) (hf:Fit f.nodes.l) (ho:Forest.ok f):pc prog 21 [zad f,.int .i64 node,.int .i64 parent,.int .i64 child]=some (.int .i64 (zxQ f.nodes.l node parent child)):=by
 have hroom:AI.roomBytes=2^46:=rfl
 refine zMo f node parent child _ ?_
 unfold P21
 have e1:(if(!(child==0))=true then(if(([parent,node]).length+1)*8≤AI.roomBytes then some ([parent,node]++[child])else none)else some [parent,node])=some (zcw node parent child):=by
  unfold zcw
  by_cases h0:child=0
  ·rw[if_neg (by simp[h0]),if_pos h0]
  ·rw[if_pos (by simp[h0]),if_neg h0,if_pos (by rw[hroom];simp)];rfl
 rw[e1,Option.bind_some,zhb f ⟨false,zcw node parent child⟩ hf (by unfold zcw;split<;>simp),zas (e:=D.int .i64),Option.bind_some]
 unfold zxQ
 by_cases h0:zbg f.nodes.l (zcw node parent child)=0
 ·obtain⟨hr,hp,hn,hc⟩:=zkY h0
  rw[if_neg (by simp[h0]),if_pos h0,show(⟨⟨f.nodes⟩,parent,child,false⟩:valid_ask)=⟨f,parent,child,false⟩from rfl,zog hf hr hp node child false hn hc (zqZ ho parent),zas (e:=D.int .i64)];rfl
 ·rw[if_pos (by simp[h0]),if_neg h0]
theorem zkZ (f:Forest) (node parent child:Int) (hf:Fit f.nodes.l):pc prog 22 [zad f,.int .i64 node,.int .i64 parent,.int .i64 child]=some (.int .i64 (zxQ f.nodes.l node parent child)):=by
 have hroom:AI.roomBytes=2^46:=rfl
 refine zMp f node parent child _ ?_
 unfold P22
 obtain⟨l,e1,e2,e3⟩:∃l,(if(!(child==0))=true then(if(([node,parent]).length+1)*8≤AI.roomBytes then some ([node,parent]++[child])else none)else some [node,parent])=some l∧zbg f.nodes.l l=zbg f.nodes.l (zcw node parent child)∧l.length≤3:=by
  unfold zcw
  by_cases h0:child=0
  ·exact⟨[node,parent],by rw[if_neg (by simp[h0])],by rw[if_pos h0];exact zhW fun x=>by simp;exact or_comm,by simp⟩
  ·exact⟨[node,parent,child],by rw[if_pos (by simp[h0]),if_pos (by rw[hroom];simp)];rfl,by rw[if_neg h0];exact zhW fun x=>by simp;exact or_left_comm,by simp⟩
 rw[e1,Option.bind_some,zjU f ⟨false,l⟩ hf (by dsimp only;omega),zas (e:=D.int .i64),Option.bind_some]
 dsimp only
 rw[e2]
 unfold zxQ
 by_cases h0:zbg f.nodes.l (zcw node parent child)=0
 ·obtain⟨hr,hp,hn,hc⟩:=zkY h0
  rw[if_neg (by simp[h0]),if_pos h0,zof hf hr hp node child false hn hc,zas (e:=D.int .i64)];rfl
 ·rw[if_pos (by simp[h0]),if_neg h0]
theorem zeB (f:Forest) (node parent child:Int) (hf:Fit f.nodes.l) (ho:Forest.ok f):pc prog 24 [zad f,.int .i64 node,.int .i64 parent,.int .i64 child]=some (.int .i64 (zBs f.nodes.l node parent child)):=by
 refine zMq f node parent child _ ?_
 unfold P24
 rw[zhb f ⟨false,[parent,node,child]⟩ hf (by simp),zas (e:=D.int .i64),Option.bind_some]
 unfold zBs
 by_cases h0:zbg f.nodes.l [parent,node,child]=0
 ·obtain⟨hr,hl⟩:=zcd.1 h0
  rw[if_neg (by simp[h0]),if_pos h0,show(⟨⟨f.nodes⟩,parent,child,true⟩:valid_ask)=⟨f,parent,child,true⟩from rfl,zog hf hr (hl _ (by simp)) node child true (hl _ (by simp)) (.inr (hl _ (by simp))) (zqZ ho parent),zas (e:=D.int .i64)];rfl
 ·rw[if_pos (by simp[h0]),if_neg h0]
theorem zpJ (f:Forest) (node parent child:Int) (hf:Fit f.nodes.l):pc prog 25 [zad f,.int .i64 node,.int .i64 parent,.int .i64 child]=some (.int .i64 (zBs f.nodes.l node parent child)):=by
 refine zMr f node parent child _ ?_
 unfold P25
 rw[zjU f ⟨false,[node,parent,child]⟩ hf (by simp),zas (e:=D.int .i64),Option.bind_some]
 dsimp only
 rw[show zbg f.nodes.l [node,parent,child]=zbg f.nodes.l [parent,node,child]from zhW fun x=>by simp;exact or_left_comm]
 unfold zBs
 by_cases h0:zbg f.nodes.l [parent,node,child]=0
 ·obtain⟨hr,hl⟩:=zcd.1 h0
  rw[if_neg (by simp[h0]),if_pos h0,zof hf hr (hl _ (by simp)) node child true (hl _ (by simp)) (.inr (hl _ (by simp))),zas (e:=D.int .i64)];rfl
 ·rw[if_pos (by simp[h0]),if_neg h0]
noncomputable def zJq (f:List Node) (node:Int):Int:=if zbg f [node]=0 then(if kd f node=9 then 17 else if kd f node=12 then 10 else 0)else zbg f [node]
theorem zxM (f:Forest) (node:Int) (hf:Fit f.nodes.l):pc prog 26 [zad f,.int .i64 node]=some (.int .i64 (zJq f.nodes.l node)):=by
 refine zMs f node _ ?_
 unfold P26 zJq
 rw[zxu f node hf,zas (e:=D.int .i64),Option.bind_some,zcz f node hf.1,zas (e:=zah),Option.bind_some,show(nodeD f.nodes.l node).kind=kd f.nodes.l node from rfl]
 by_cases h0:zbg f.nodes.l [node]=0
 ·rw[if_neg (by simp[h0]),if_pos h0]
  by_cases h1:kd f.nodes.l node=9
  ·rw[if_pos (by simpa using h1),if_pos h1]
  ·rw[if_neg (by simpa using h1),if_neg h1]
   by_cases h2:kd f.nodes.l node=12
   ·rw[if_pos (by simpa using h2),if_pos h2]
   ·rw[if_neg (by simpa using h2),if_neg h2]
 ·rw[if_pos (by simp[h0]),if_neg h0]
theorem zxN (f:Forest) (node:Int) (hf:Fit f.nodes.l):pc prog 27 [zad f,.int .i64 node]=some (.int .i64 (zJq f.nodes.l node)):=by
 refine zMt f node _ ?_
 unfold P27 zJq
 rw[zjU f ⟨false,[node]⟩ hf (by simp),zas (e:=D.int .i64),Option.bind_some]
 dsimp only
 by_cases h0:zbg f.nodes.l [node]=0
 ·obtain⟨hr,hl⟩:=zcd.1 h0
  rw[if_neg (by simp[h0]),if_pos h0,zda f node hf (hl _ (by simp)),zas (e:=D.int .u8),Option.bind_some]
  by_cases h1:kd f.nodes.l node=9
  ·rw[if_pos (by simpa using h1),if_pos h1]
  ·rw[if_neg (by simpa using h1),if_neg h1]
   by_cases h2:kd f.nodes.l node=12
   ·rw[if_pos (by simpa using h2),if_pos h2]
   ·rw[if_neg (by simpa using h2),if_neg h2]
 ·rw[if_pos (by simp[h0]),if_neg h0]
theorem zkp (f:Forest) (parent node child:Int) (ho:Forest.ok f) (_:IntKind.i64.min≤parent∧parent≤IntKind.i64.max) (_:IntKind.i64.min≤node∧node≤IntKind.i64.max) (_:IntKind.i64.min≤child∧child≤IntKind.i64.max) (hb:D.bulkAll [zad f,.int .i64 parent,.int .i64 node,.int .i64 child]≤1048576):pc prog 4 [zad f,.int .i64 parent,.int .i64 node,.int .i64 child]=some (.bool true):=by
 have hf:=ziT hb
 refine ok4 f parent node child _ ?_
 unfold P4
 rw[zdb f node parent child hf ho,zkZ f node parent child hf,zdb f node parent 0 hf ho,zkZ f node parent 0 hf,ziX]
 simp only[zas (e:=D.int .i64),zas (e:=D.bool),Option.bind_some]
 rw[if_pos (by simp),if_pos (by simp)]
theorem zjZ (f:Forest) (parent node child:Int) (ho:Forest.ok f) (_:IntKind.i64.min≤parent∧parent≤IntKind.i64.max) (_:IntKind.i64.min≤node∧node≤IntKind.i64.max) (_:IntKind.i64.min≤child∧child≤IntKind.i64.max) (hb:D.bulkAll [zad f,.int .i64 parent,.int .i64 node,.int .i64 child]≤1048576):pc prog 5 [zad f,.int .i64 parent,.int .i64 node,.int .i64 child]=some (.bool true):=by
 have hf:=ziT hb
 refine ok5 f parent node child _ ?_
 unfold P5
 rw[zeB f node parent child hf ho,zpJ f node parent child hf,zxM f node hf,zxN f node hf,ziX]
 simp only[zas (e:=D.int .i64),zas (e:=D.bool),Option.bind_some]
 rw[if_pos (by simp),if_pos (by simp)]
theorem zka (f:Forest) (hf:Fit f.nodes.l) (hr:zbK f.nodes.l):∀h,isN f.nodes.l h→pc prog 34 [zad f,.int .i64 h]=some (eSl (D.int .i64) ⟨false,zck f.nodes.l h⟩):=by
 have hroom:AI.roomBytes=2^46:=rfl
 refine ziR hr fun h hh ih=> ?_
 refine zLW f h _ ?_
 unfold P34
 rw[zcX f h hf.1,zas (e:=eT2 zah D.bool),Option.bind_some]
 dsimp only
 rw[zex,decide_eq_true hh,if_neg (by simp)]
 have hkl:=zcg hf h
 have hall:=zmg hr hh
 have h40:=hr.1
 rw[zdz hr hh]at hall
 simp only[List.length_cons,List.length_append]at hall
 have key:∀(acc:List Int),acc.length+((kidsL f.nodes.l h).flatMap (zck f.nodes.l)).length≤2^40→∀m k,k+m=(kidsL f.nodes.l h).length→zaU (zcG f (nodeD f.nodes.l h,true)) ((k:Int),acc++((kidsL f.nodes.l h).take k).flatMap (zck f.nodes.l))=some (acc++(kidsL f.nodes.l h).flatMap (zck f.nodes.l)):=by
  intro acc hacc m
  induction m with
  |zero=>
   intro k hk
   obtain rfl:k=(kidsL f.nodes.l h).length:=by omega
   rw[List.take_length]
   refine zaH ?_
   simp only[zcG]
   rw[if_neg (by show ¬(decide (((kidsL f.nodes.l h).length:Int)<((kidsL f.nodes.l h).length:Int))=true);simp)]
  |succ m ihm=>
   intro k hk
   have hlt:k<(kidsL f.nodes.l h).length:=by omega
   have hw:=zaJ (show k<2^62 by unfold kidsL at hlt;omega)
   have hmem:(kidsL f.nodes.l h)[k]∈kidsL f.nodes.l h:=List.getElem_mem hlt
   have hkN:=(zcy hr hmem).2.1
   have hle:=zLf (g:=zck f.nodes.l) (kidsL f.nodes.l h) (k+1)
   rw[zxr hlt,List.length_append]at hle
   have hrd:rd (nodeD f.nodes.l h).kids.l (k:Int)=some (kidsL f.nodes.l h)[k]:=zbA hlt
   rw[←ihm (k+1) (by omega),zxr hlt]
   refine zaP ?_
   simp only[zcG,hrd,Option.bind_some,ih _ hkN (zcy hr hmem).2.2.2,zas (e:=eSl (D.int .i64)),hw]
   rw[if_pos (show decide ((k:Int)<((nodeD f.nodes.l h).kids.l.length:Int))=true by
    apply decide_eq_true;unfold kidsL at hlt;omega)]
   rw[if_neg (by rw[zdz hr hkN];simp),if_pos (by rw[hroom];simp only[List.length_append];omega)]
   simp only[List.append_assoc]
 have fin:∀(acc:List Int),acc.length+((kidsL f.nodes.l h).flatMap (zck f.nodes.l)).length≤2^40→acc++(kidsL f.nodes.l h).flatMap (zck f.nodes.l)=zck f.nodes.l h→((zaU (zcG f (nodeD f.nodes.l h,true)) (0,acc)).bind fun r21=>some ((⟨false,r21⟩:Sl Int)))=some ⟨false,zck f.nodes.l h⟩:=by
  intro acc hacc e
  have:=key acc hacc (kidsL f.nodes.l h).length 0 (by omega)
  rw[show(((0:Nat):Int))=0 from rfl,List.take_zero,List.flatMap_nil,List.append_nil]at this
  rw[this,e];rfl
 by_cases hs:(nodeD f.nodes.l h).shadow=0
 ·rw[if_neg (by simp[hs]),Option.bind_some]
  rw[if_pos hs]at hall
  exact fin [h] (by simp only[List.length_singleton];omega) (by rw[zdz hr hh,if_pos hs];simp)
 ·obtain⟨s1,s2,s3⟩:=zcJ hr hs
  rw[if_neg hs]at hall
  rw[if_pos (by simp[hs]),ih _ s2 s3,zas (e:=eSl (D.int .i64)),Option.bind_some,if_neg (by rw[zdz hr s2];simp),if_pos (by rw[hroom];simp only[List.length_singleton];omega),Option.bind_some]
  exact fin ([h]++zck f.nodes.l (nodeD f.nodes.l h).shadow) (by simp only[List.length_append,List.length_singleton];omega) (by rw[zdz hr hh,if_neg hs];simp)
theorem zpK (f:Forest) (h:Int) (hf:Fit f.nodes.l) (hh:¬isN f.nodes.l h):pc prog 34 [zad f,.int .i64 h]=some (eSl (D.int .i64) ⟨true,[]⟩):=by
 refine zLW f h _ ?_
 unfold P34
 rw[zcX f h hf.1,zas (e:=eT2 zah D.bool),Option.bind_some]
 dsimp only
 rw[zex,decide_eq_false hh,if_pos (by simp)]
theorem zla {f:List Node} {parent node child:Int} {rep:Bool} (h:node∈upc f parent):zeS f parent node child rep=10:=by
 unfold zeS
 rw[if_pos (by rw[decide_eq_true h];simp)]
theorem zra {f:List Node} {parent node child:Int} (h:node∈upc f parent):zxQ f node parent child≠0:=by
 unfold zxQ
 split
 ·rw[zla h];decide
 ·assumption
theorem zrb {f:List Node} {parent node child:Int} (h:node∈upc f parent):zBs f node parent child≠0:=by
 unfold zBs
 split
 ·rw[zla h];decide
 ·assumption
theorem zoh (f:Forest) (parent node child:Int) (ho:Forest.ok f) (_:IntKind.i64.min≤parent∧parent≤IntKind.i64.max) (_:IntKind.i64.min≤node∧node≤IntKind.i64.max) (_:IntKind.i64.min≤child∧child≤IntKind.i64.max) (hb:D.bulkAll [zad f,.int .i64 parent,.int .i64 node,.int .i64 child]≤1048576):pc prog 7 [zad f,.int .i64 parent,.int .i64 node,.int .i64 child]=some (.bool true):=by
 have hf:=ziT hb
 refine ok7 f parent node child _ ?_
 unfold P7
 rw[ziX,zas (e:=D.bool),Option.bind_some,if_neg (by simp),zjT f hf,zas (e:=D.bool),Option.bind_some]
 by_cases hR:zfX f.nodes.l=true
 case neg=>rw[if_pos (by simp only[Bool.not_eq_true]at hR;rw[hR];rfl)]
 have hr:=zei.1 hR
 by_cases hp:isN f.nodes.l parent
 case neg=>rw[if_pos (by rw[hR];unfold isN at hp;simp;omega)]
 have hpp:=zme hr hp
 rw[if_neg (by rw[hR];unfold isN at hp;simp;omega),zdb f parent parent 0 hf ho,zeB f parent parent child hf ho]
 simp only[zas (e:=D.int .i64),Option.bind_some]
 rw[if_pos (by simpa using zra hpp),Option.bind_some,if_neg (by simpa using zrb hpp)]
 have loop:∀(l:Sl Int),l.l.length≤2^40→zaU (zdA f parent node child l) (false,0)=some (decide (parent∈l.l)):=by
  intro l hl
  have:=(zwY (step:=zdA f parent node child l) (l:=l.l) (fun b x=>b||x==parent) (fun _=>True) (fun k hk b _=>⟨by
   have hw:=zaJ (show k<2^62 by omega)
   simp only[zdA,zbA hk,Option.bind_some,hw]
   rw[if_pos (decide_eq_true (by omega))]
   cases b<;>simp,trivial⟩) (fun b _=>by
   simp only[zdA]
   rw[if_neg (by simp)]) false trivial).1
  rw[this]
  have gen:∀(m:List Int) (b:Bool),m.foldl (fun b x=>b||x==parent) b=(b||decide (parent∈m)):=by
   intro m
   induction m with
   |nil=>intro b;simp
   |cons x m ih=>
    intro b
    rw[List.foldl_cons,ih]
    by_cases e:x=parent
    ·subst e;simp
    ·have:(x==parent)=false:=by simpa using e
     rw[this,Bool.or_false]
     congr 1
     rw[decide_eq_decide,List.mem_cons]
     exact⟨.inr,fun h=>h.resolve_left fun h=>e h.symm⟩
  rw[gen];simp
 by_cases hn:isN f.nodes.l node
 ·have hl:=zmg hr hn
  have h40:=hr.1
  rw[zka f hf hr node hn,zas (e:=eSl (D.int .i64)),Option.bind_some,loop ⟨false,zck f.nodes.l node⟩ (by dsimp only;omega),Option.bind_some]
  by_cases hm:parent∈zck f.nodes.l node
  ·have hu:=(zmf hr hn).1 hm
   rw[if_pos (by simpa using hm),zdb f node parent child hf ho,zeB f node parent child hf ho]
   simp only[zas (e:=D.int .i64),Option.bind_some]
   rw[if_pos (by simpa using zra hu)]
   have:=zrb (child:=child) hu
   simpa using this
  ·rw[if_neg (by simpa using hm)]
 ·rw[zpK f node hf hn,zas (e:=eSl (D.int .i64)),Option.bind_some,loop ⟨true,[]⟩ (by simp),Option.bind_some,if_neg (by simp)]
theorem zkb {f:List Node} {parent node child:Int} {rep:Bool} (h1:kd f parent=1∨kd f parent=11∨kd f parent=12) (h2:kd f node≠9∧kd f node≠12∧kd f node≠10) (h3:node∉upc f parent) (h4:child=0∨par f child=parent):zeS f parent node child rep=0:=by
 unfold zeS
 have hk:zew (kd f parent)=true:=by rcases h1 with h|h|h<;>rw[h]<;>rfl
 have h9:kd f parent≠9:=by rcases h1 with h|h|h<;>rw[h]<;>decide
 rw[if_neg (by rw[hk,decide_eq_false h3];simp),if_neg (by rintro⟨a,b⟩;rcases h4 with h|h;exact a h;exact b h),if_neg (by rintro(h|h);exact h2.1 h;exact h2.2.1 h),if_neg (by rintro(⟨_,h⟩|⟨h,_⟩);exact h9 h;exact h2.2.2 h),if_neg (fun h=>h9 h.1)]
theorem zhX (f:Forest) (parent node:Int) (ho:Forest.ok f) (_:IntKind.i64.min≤parent∧parent≤IntKind.i64.max) (_:IntKind.i64.min≤node∧node≤IntKind.i64.max) (hb:D.bulkAll [zad f,.int .i64 parent,.int .i64 node]≤1048576):pc prog 8 [zad f,.int .i64 parent,.int .i64 node]=some (.bool true):=by
 have hf:=ziT hb
 refine ok8 f parent node _ ?_
 unfold P8
 rw[ziX,zas (e:=D.bool),Option.bind_some,if_neg (by simp),zcX f parent hf.1,zcX f node hf.1,zas (e:=eT2 zah D.bool),zas (e:=eT2 zah D.bool),Option.bind_some,Option.bind_some,zjT f hf,zas (e:=D.bool)]
 dsimp only
 rw[zex,zex]
 by_cases hp:isN f.nodes.l parent
 case neg=>rw[decide_eq_false hp,if_neg (by simp)];rfl
 by_cases hn:isN f.nodes.l node
 case neg=>rw[decide_eq_false hn,if_neg (by simp)];rfl
 rw[decide_eq_true hp,decide_eq_true hn,if_pos (by simp),Option.bind_some,Option.bind_some]
 by_cases hR:zfX f.nodes.l=true
 case neg=>rw[if_pos (by simp only[Bool.not_eq_true]at hR;rw[hR];rfl)]
 have hr:=zei.1 hR
 rw[if_neg (by rw[hR];simp)]
 rw[show(nodeD f.nodes.l parent).kind=kd f.nodes.l parent from rfl,show(nodeD f.nodes.l node).kind=kd f.nodes.l node from rfl]
 by_cases hk:(kd f.nodes.l parent=1∨kd f.nodes.l parent=11∨kd f.nodes.l parent=12)∧(kd f.nodes.l node≠9∧kd f.nodes.l node≠12∧kd f.nodes.l node≠10)
 case neg=>
  refine if_pos ?_
  simp only[bor,zkN,Bool.or_eq_true,Bool.and_eq_true,Bool.not_eq_true',beq_eq_false_iff_ne,beq_iff_eq]
  refine Classical.byContradiction fun hno=>hk ?_
  simp only[not_or]at hno
  obtain⟨⟨⟨h1,h2⟩,h3⟩,h4⟩:=hno
  refine⟨Classical.byContradiction fun hc=>h1 ?_,h2,h3,h4⟩
  simp only[not_or]at hc
  exact⟨⟨hc.1,hc.2.1⟩,hc.2.2⟩
 rw[if_neg (by
  simp only[bor,zkN,Bool.or_eq_true,Bool.and_eq_true,Bool.not_eq_true',beq_eq_false_iff_ne,beq_iff_eq]
  rintro(((⟨⟨a,b⟩,c⟩|h)|h)|h)
  ·rcases hk.1 with e|e|e
   ·exact a e
   ·exact b e
   ·exact c e
  ·exact hk.2.1 h
  ·exact hk.2.2.1 h
  ·exact hk.2.2.2 h)]
 have hl:=zmg hr hn
 have h40:=hr.1
 have hkl:=zcg hf parent
 rw[zka f hf hr node hn,zas (e:=eSl (D.int .i64)),Option.bind_some]
 rw[zfw (step:=zej f parent node (nodeD f.nodes.l parent,true) ⟨false,zck f.nodes.l node⟩) (l:=zck f.nodes.l node) (fun x=>x==parent) (Sum.inr ()) (Sum.inl ()) ?_ ?_,Option.bind_some]
 ·by_cases hm:(zck f.nodes.l node).any (fun x=>x==parent)=true
  ·rw[if_pos hm]
  ·rw[if_neg hm]
   have hu:node∉upc f.nodes.l parent:=fun h=>hm (List.any_eq_true.2 ⟨parent,(zmf hr hn).2 h,by simp⟩)
   have hz:∀k rep,k=0∨k∈kidsL f.nodes.l parent→zeS f.nodes.l parent node k rep=0:=fun k rep h=>zkb hk.1 hk.2 hu (h.imp id fun h=>(zcy hr h).2.2.1)
   dsimp only
   rw[zfw (step:=zek f parent node (nodeD f.nodes.l parent,true)) (l:=kidsL f.nodes.l parent) (fun _=>false) (Sum.inr ()) (Sum.inl ()) ?_ ?_,Option.bind_some,if_neg (by simp)]
   ·dsimp only
    have:zxQ f.nodes.l node parent 0=0:=by
     unfold zxQ
     rw[if_pos (zcd.2 ⟨hr,by unfold zcw;simpa using⟨hp,hn⟩⟩),hz 0 false (.inl rfl)]
    rw[zdb f node parent 0 hf ho,zas (e:=D.int .i64),Option.bind_some,this];rfl
   ·intro k hkk
    have hw:=zaJ (show k<2^62 by unfold kidsL at hkk;omega)
    have hmem:=List.getElem_mem hkk
    have hkN:=(zcy hr hmem).2.1
    have hne:(kidsL f.nodes.l parent)[k]≠0:=fun e=>zcv (e▸hkN)
    have i0:zxQ f.nodes.l node parent (kidsL f.nodes.l parent)[k]=0:=by
     unfold zxQ
     rw[if_pos (zcd.2 ⟨hr,by unfold zcw;rw[if_neg hne];simpa using⟨hp,hn,hkN⟩⟩),hz _ false (.inr hmem)]
    have r0:zBs f.nodes.l node parent (kidsL f.nodes.l parent)[k]=0:=by
     unfold zBs
     rw[if_pos (zcd.2 ⟨hr,by simpa using⟨hp,hn,hkN⟩⟩),hz _ true (.inr hmem)]
    have hrd:rd (nodeD f.nodes.l parent).kids.l (k:Int)=some (kidsL f.nodes.l parent)[k]:=zbA hkk
    simp only[zek,hrd,Option.bind_some,zdb f _ _ _ hf ho,zeB f _ _ _ hf ho,zas (e:=D.int .i64),i0,r0,hw]
    rw[if_pos (decide_eq_true (by show(k:Int)<((kidsL f.nodes.l parent).length:Int);omega))]
    rfl
   ·simp only[zek]
    rw[if_neg (by show ¬decide (((kidsL f.nodes.l parent).length:Int)<((kidsL f.nodes.l parent).length:Int))=true;simp)]
 ·intro k hkk
  have hw:=zaJ (show k<2^62 by omega)
  simp only[zej,zbA hkk,Option.bind_some,hw]
  rw[if_pos (decide_eq_true (by omega))]
  split<;>rfl
 ·simp only[zej]
  rw[if_neg (by simp)]
end Go.Proofs.Ytfleilibjdgcjaa.V
