/- Shaken copy of a longer text: what one law needs. Its conditions: none. -/
import Derived.Test.YthodcjjgimeeoaaGreatZPSpPa
import Derived.Test.YthodcjjgimeeoaaGreatZPDecP
import Derived.Test.YthodcjjgimeeoaaGreatZPSpFlt
set_option linter.unusedSimpArgs false
set_option linter.unusedVariables false
set_option linter.unusedSimpArgs false
set_option linter.unusedVariables false
set_option linter.unusedSectionVars false
set_option linter.unnecessarySimpa false
namespace Go.Proofs.YthodcjjgimeeoaaGreat.P
open Go.AI
theorem ziR {α ρ:Type} {step:Int→Option (Int⊕ρ)} {l:List α} (p:α→Bool) (f:α→ρ) (e:ρ) (h:∀k (hk:k<l.length),step (k:Int)=some (if p l[k]=true then .inr (f l[k])else .inl ((k+1:Nat):Int))) (he:step (l.length:Int)=some (.inr e)):zaL step 0=some (match l.find? p with|some a=>f a|none=>e):=by
 have key:∀n k,k+n=l.length→zaL step (k:Int)=some (match(l.drop k).find? p with|some a=>f a|none=>e):=by
  intro n
  induction n with
  |zero=>
   intro k hk
   obtain rfl:k=l.length:=by omega
   rw[List.drop_length];exact zau he
  |succ n ih=>
   intro k hk
   have hl:k<l.length:=by omega
   rw[List.drop_eq_getElem_cons hl,List.find?_cons]
   rcases hp:p l[k]with _|_
   ·rw[zaC (y:=((k+1:Nat):Int)) (by rw[h k hl,hp];rfl)]
    exact ih (k+1) (by omega)
   ·exact zau (by rw[h k hl,hp];rfl)
 have:=key l.length 0 (by omega)
 rw[List.drop_zero]at this
 exact this
theorem zmc {α ρ:Type} {step:Unit→α→Option (Unit⊕ρ)} (p:α→Bool) (f:α→ρ):∀l:List α,(∀a∈l,step () a=some (if p a=true then .inr (f a)else .inl ()))→foldI step () l=some (match l.find? p with|some a=> .inr (f a)|none=> .inl ())
 |[],_=>rfl
 |a::l,h=>by
  simp only[foldI,h a List.mem_cons_self,Option.bind_some,List.find?_cons]
  rcases p a with _|_
  ·exact zmc p f l fun b hb=>h b (List.mem_cons_of_mem _ hb)
  ·rfl
def zkb (l:List Assign):Prop:=l.length≤2^40∧∀x∈l,x.nodes.l.length≤2^40
def zld (hand:List Assign) (slot:Int):Sl Int:=match hand.find? (fun x=>x.slot==slot)with|some x=>x.nodes|none=>⟨true,[]⟩
theorem zkc {hand:List Assign} {slot:Int}:(zld hand slot).l=zfH hand slot:=by
 unfold zld zfH
 rcases hx:hand.find? (fun x=>x.slot==slot)with _|x<;>simp only[hx]
theorem zpK {hand:List Assign} (hh:zkb hand) (slot:Int):(zfH hand slot).length≤2^40:=by
 unfold zfH
 rcases hx:hand.find? (fun x=>x.slot==slot)with _|x
 ·rw[hx];simp
 ·rw[hx];exact hh.2 x (List.mem_of_find?_eq_some hx)
theorem zAy (b:shadow_by) (x:Int) (hh:zkb b.hand.l):pc prog 148 [zaW b,.int .i64 x]=some (eSl (D.int .i64) (zld b.hand.l x)):=by
 refine zPS b x _ ?_
 unfold zPR
 rw[ziR (l:=b.hand.l) (fun y=>y.slot==x) (fun y=>Sum.inr y.nodes) (Sum.inl ()) ?_ ?_,Option.bind_some]
 ·unfold zld
  rcases hx:b.hand.l.find? (fun y=>y.slot==x)with _|y<;>simp only[hx]
 ·intro k hk
  have hw:=zaK (show k<2^62 by have:=hh.1;omega)
  simp only[zed,zbd hk,Option.bind_some,hw]
  rw[if_pos (decide_eq_true (by omega))]
  split<;>rfl
 ·simp only[zed]
  rw[if_neg (by simp)]
theorem zpL (n:Node) (s:List UInt8) (hl:n.attrs.l.length≤2^40):∃b,pc prog 154 [zao n,.str s]=some (eT2 D.str D.bool (zfI n s,b)):=by
 refine⟨(n.attrs.l.find? (fun a=>a.name.space==[]&&a.name.local_==s)).isSome,zPU n s _ ?_⟩
 unfold zPT
 rw[ziR (l:=n.attrs.l) (fun a=>a.name.space==[]&&a.name.local_==s) (fun a=>Sum.inr a.value) (Sum.inl ()) ?_ ?_,Option.bind_some]
 ·unfold zfI
  rcases hx:n.attrs.l.find? (fun a=>a.name.space==[]&&a.name.local_==s)with _|y<;>simp only[hx]<;>rfl
 ·intro k hk
  have hw:=zaK (show k<2^62 by omega)
  simp only[zee,zbd hk,Option.bind_some,hw,zpU]
  rw[if_pos (decide_eq_true (by omega))]
  split<;>rfl
 ·simp only[zee]
  rw[if_neg (by simp)]
theorem zpM (l:Sl Int) (x:Int) (hl:l.l.length≤2^40):pc prog 153 [.list l.n (l.l.map (D.int .i64)),.int .i64 x]=some (.bool (l.l.contains x)):=by
 refine zPQ l x _ ?_
 unfold zPP
 rw[zAl l x hl,zap (e:=D.int .i64),Option.bind_some]
 congr 1
 rw[Bool.eq_iff_iff,decide_eq_true_iff,ziL,List.contains_iff_mem]
theorem zEy (k:Int):pc prog 103 [.int .u8 k]=some (.bool (k==3||k==4)):=by
 refine zPO k _ ?_
 unfold zPN
 simp only[bor]
theorem zhS (n:Node):pc prog 60 [zao n]=some (.bool (zaZ n.kind)):=by
 refine zQO n _ ?_
 unfold P60 zaZ
 rw[zEy,zap (e:=D.bool),Option.bind_some]
 cases n.kind==1<;>simp
theorem zgu (n:Node):pc prog 59 [zao n]=some (.bool (zcY n)):=by
 refine zQN n _ ?_
 unfold P59 zcY
 have e:decide (n.name=(⟨zAs,n.name.prefix_,zkZ⟩:Name))=(n.name.space==zAs&&n.name.local_==zkZ):=by
  rw[Bool.eq_iff_iff,decide_eq_true_iff,Bool.and_eq_true,beq_iff_eq,beq_iff_eq]
  constructor
  ·intro h;exact⟨congrArg Name.space h,congrArg Name.local_ h⟩
  ·rintro⟨h1,h2⟩
   rcases hn:n.name with⟨a,b,c⟩
   rw[hn]at h1 h2
   simp only at h1 h2
   rw[h1,h2]
 rw[show([104,116,116,112,58,47,47,119,119,119,46,119,51,46,111,114,103,47,49,57,57,57,47,120,104,116,109,108]:List UInt8)=zAs from rfl,show([115,108,111,116]:List UInt8)=zkZ from rfl,e]
 cases n.kind==1<;>simp
theorem zle {f:List Node} (hf:Fit f) (h:Int):(nodeD f h).attrs.l.length≤2^40:=by
 unfold nodeD
 rcases e:zcj f h with _|n
 ·simp[nd0]
 ·exact(hf.2 n (zhN e)).1
theorem zEz (b:shadow_by) (x h:Int) (m:Bool) (hf:Fit b.f.nodes.l) (hh:zkb b.hand.l):pc prog 125 [zaW b,.int .i64 x,.int .i64 h,.bool m]=some (.bool (zeM b.f.nodes.l b.hand.l x h m)):=by
 refine zPM b x h m _ ?_
 unfold zPL zeM
 obtain⟨b1,h1⟩:=zpL (nodeD b.f.nodes.l x) [110,97,109,101] (zle hf x)
 obtain⟨b2,h2⟩:=zpL (nodeD b.f.nodes.l h) [115,108,111,116] (zle hf h)
 cases m with
 |true=>
  rw[if_pos rfl,if_pos rfl,zAy b x hh,zap (e:=eSl (D.int .i64)),Option.bind_some,zpM _ _ (by rw[zkc];exact zpK hh x),zap (e:=D.bool),Option.bind_some,zkc]
 |false=>
  rw[if_neg (by simp),if_neg (by simp)]
  simp only[zeL b.f _ hf.1,zap (e:=zao),Option.bind_some,h1,h2,zap (e:=eT2 D.str D.bool)]
  split<;>rfl
theorem zEA (f:Forest) (hand:Sl Assign) (h:Int) (hf:Fit f.nodes.l) (hr:zaJ f.nodes.l) (hh:zkb hand.l):pc prog 100 [zaW ⟨f,hand⟩,.int .i64 h]=some (eT2 (D.int .i64) (D.int .i64) (zbQ f.nodes.l hand.l h)):=by
 refine zPK ⟨f,hand⟩ h _ ?_
 unfold zPJ zbQ
 simp only[zeL f _ hf.1,zap (e:=zao),Option.bind_some,zhS,zap (e:=D.bool)]
 rw[show(nodeD f.nodes.l h).parent=par f.nodes.l h from rfl]
 by_cases hc:zaZ (nodeD f.nodes.l h).kind=true∧(nodeD f.nodes.l (par f.nodes.l h)).shadow≠0
 ·obtain⟨h1,h2,h3⟩:=zci hr hc.2
  rw[if_neg (by rw[hc.1];simpa using hc.2),if_pos hc,zpI hf hr h2,Option.bind_some]
  rw[zmc (fun x=>zcY (nodeD f.nodes.l x)&&zeM f.nodes.l hand.l x h (nodeD f.nodes.l (nodeD f.nodes.l (par f.nodes.l h)).shadow).manual) (fun x=>x) _ ?_,Option.bind_some]
  ·rcases hx:(zdw f.nodes.l (nodeD f.nodes.l (par f.nodes.l h)).shadow).find? (fun x=>zcY (nodeD f.nodes.l x)&&zeM f.nodes.l hand.l x h (nodeD f.nodes.l (nodeD f.nodes.l (par f.nodes.l h)).shadow).manual)with _|x<;>simp only[hx]
  ·intro x hx
   simp only[zfl,zeL f _ hf.1,zap (e:=zao),Option.bind_some,zgu,zap (e:=D.bool),zEz ⟨f,hand⟩ _ _ _ hf hh]
   cases zcY (nodeD f.nodes.l x)
   ·rfl
   ·cases zeM f.nodes.l hand.l x h (nodeD f.nodes.l (nodeD f.nodes.l (par f.nodes.l h)).shadow).manual<;>rfl
 ·rw[if_pos (by
   rcases h1:zaZ (nodeD f.nodes.l h).kind with _|_
   ·rfl
   ·have:(nodeD f.nodes.l (par f.nodes.l h)).shadow=0:=Classical.byContradiction fun h2=>hc ⟨h1,h2⟩
    rw[this];rfl),if_neg hc]
def zfJ (hand:List Assign):Bool:=decide (4096<hand.length)||hand.any (fun x=>decide (4096<x.nodes.l.length))
def zvD (f:List Node) (hand:List Assign):Bool:=hand.all fun x=>(x.slot::x.nodes.l).all fun h=>decide (isN f h)
def zev (f:List Node):List Int→List Int→Option (List Int)
 |s,[]=>some s
 |s,h::r=>if(s.contains h|| !zaZ (nodeD f h).kind)=true then none else zev f (h::s) r
def zhT (f:List Node):List Int→List Int→List Assign→Bool
 |_,_,[]=>true
 |s,t,x::r=>if(s.contains x.slot|| !zcY (nodeD f x.slot))=true then false else match zev f t x.nodes.l with|some t'=>zhT f (x.slot::s) t' r|none=>false
noncomputable def zlh (f:List Node) (hand:List Assign):Int:=if zfn f=true then(if zfJ hand=true then 3 else if zvD f hand=true then(if zhT f [] [] hand=true then 0 else 23)else 2)else 5
theorem zeQ {f:List Node} {hand:List Assign} (h:zlh f hand=0):zaJ f:=by
 unfold zlh at h
 by_cases hr:zfn f=true
 ·exact zdv.1 hr
 ·rw[if_neg hr]at h;cases h
def zrD (m:List (Int×Bool)) (s:List Int):Prop:=∀k,zhW k m false=s.contains k
theorem zpN:zrD [] []:=fun k=>rfl
theorem zpO {m:List (Int×Bool)} {s:List Int} (h:zrD m s) (x:Int):zrD (zfy x true m) (x::s):=fun k=>by
 rw[znj,h k,List.contains_cons]
 by_cases e:k=x
 ·rw[if_pos e,e];simp
 ·rw[if_neg e,beq_false_of_ne e,Bool.false_or]
theorem zvE (f:Forest) (hand:Sl Assign) (hf:Fit f.nodes.l) (x2:List (Int×Bool)×List (Int×Bool)×Int) (y:Assign) (hy:y.nodes.l.length≤2^40):∀n k,k+n=y.nodes.l.length→∀(m:List (Int×Bool)) (s:List Int),zrD m s→
 (zev f.nodes.l s (y.nodes.l.drop k)=none∧zaL (zcy f hand x2 y) (m,(k:Int))=some (.inr ()))∨∃s' m',zev f.nodes.l s (y.nodes.l.drop k)=some s'∧zaL (zcy f hand x2 y) (m,(k:Int))=some (.inl m')∧zrD m' s':=by
 intro n
 induction n with
 |zero=>
  intro k hk m s hm
  obtain rfl:k=y.nodes.l.length:=by omega
  rw[List.drop_length]
  refine .inr ⟨s,m,rfl,zau ?_,hm⟩
  simp only[zcy]
  rw[if_neg (by simp)]
 |succ n ih=>
  intro k hk m s hm
  have hl:k<y.nodes.l.length:=by omega
  have hw:=zaK (show k<2^62 by omega)
  rw[List.drop_eq_getElem_cons hl]
  have hstep:zcy f hand x2 y (m,(k:Int))=some (if(s.contains y.nodes.l[k]|| !zaZ (nodeD f.nodes.l y.nodes.l[k]).kind)=true then .inr (.inr ())else .inl (zfy y.nodes.l[k] true m,((k+1:Nat):Int))):=by
   simp only[zcy,zbd hl,Option.bind_some,hw,zeL f _ hf.1,zap (e:=zao),zhS,zap (e:=D.bool),hm y.nodes.l[k]]
   rw[if_pos (decide_eq_true (by omega))]
   cases s.contains y.nodes.l[k]<;>cases zaZ (nodeD f.nodes.l y.nodes.l[k]).kind<;>rfl
  by_cases hc:(s.contains y.nodes.l[k]|| !zaZ (nodeD f.nodes.l y.nodes.l[k]).kind)=true
  ·rw[if_pos hc]at hstep
   left
   exact⟨by rw[zev,if_pos hc],zau hstep⟩
  ·rw[if_neg hc]at hstep
   rw[zev,if_neg hc,zaC hstep]
   exact ih (k+1) (by omega) _ _ (zpO hm _)
theorem zEB (f:Forest) (hand:Sl Assign) (hf:Fit f.nodes.l) (hh:zkb hand.l):∀n k,k+n=hand.l.length→∀(m1 m2:List (Int×Bool)) (s t:List Int),zrD m1 s→zrD m2 t→
 zaL (zcz f hand) (m1,m2,(k:Int))=some (if zhT f.nodes.l s t (hand.l.drop k)=true then .inl ()else .inr ()):=by
 intro n
 induction n with
 |zero=>
  intro k hk m1 m2 s t h1 h2
  obtain rfl:k=hand.l.length:=by omega
  rw[List.drop_length,zhT,if_pos rfl]
  refine zau ?_
  simp only[zcz]
  rw[if_neg (by simp)]
 |succ n ih=>
  intro k hk m1 m2 s t h1 h2
  have hl:k<hand.l.length:=by omega
  have hw:=zaK (show k<2^62 by have:=hh.1;omega)
  rw[List.drop_eq_getElem_cons hl,zhT]
  have hin:=zvE f hand hf (m1,m2,(k:Int)) hand.l[k] (hh.2 _ (List.getElem_mem hl)) hand.l[k].nodes.l.length 0 (by omega) m2 t h2
  rw[List.drop_zero,show((0:Nat):Int)=0 from rfl]at hin
  by_cases hc:(s.contains hand.l[k].slot|| !zcY (nodeD f.nodes.l hand.l[k].slot))=true
  ·rw[if_pos hc,if_neg (by simp)]
   refine zau ?_
   simp only[zcz,zbd hl,Option.bind_some,hw,zeL f _ hf.1,zap (e:=zao),zgu,zap (e:=D.bool),h1 hand.l[k].slot]
   rw[if_pos (decide_eq_true (by omega))]
   cases h3:s.contains hand.l[k].slot
   ·rw[h3]at hc
    rw[if_pos (show(!false)=true from rfl),if_pos (by simpa using hc)]
   ·rw[if_neg (by simp)]
  ·rw[if_neg hc]
   have h3:s.contains hand.l[k].slot=false∧zcY (nodeD f.nodes.l hand.l[k].slot)=true:=by simpa using hc
   rcases hin with⟨g1,g2⟩|⟨t',m',g1,g2,g3⟩
   ·rw[g1]
    dsimp only
    rw[if_neg (by simp)]
    refine zau ?_
    simp only[zcz,zbd hl,Option.bind_some,hw,zeL f _ hf.1,zap (e:=zao),zgu,zap (e:=D.bool),h1 hand.l[k].slot,h3.1,h3.2,g2]
    rw[if_pos (decide_eq_true (by omega))];rfl
   ·rw[g1]
    dsimp only
    rw[zaC (y:=(zfy hand.l[k].slot true m1,m',((k+1:Nat):Int)))]
    ·exact ih (k+1) (by omega) _ _ _ _ (zpO h1 _) g3
    ·simp only[zcz,zbd hl,Option.bind_some,hw,zeL f _ hf.1,zap (e:=zao),zgu,zap (e:=D.bool),h1 hand.l[k].slot,h3.1,h3.2,g2]
     rw[if_pos (decide_eq_true (by omega))];rfl
theorem zAz (x:Assign):pc prog 58 [zai x]=some (.bool (decide (4096<x.nodes.l.length))):=by
 refine zQP x _ ?_
 unfold P58
 rw[show decide ((4096:Int)<(x.nodes.l.length:Int))=decide (4096<x.nodes.l.length) by rw[decide_eq_decide];omega]
theorem zlf (f:Forest) (hand:Sl Assign) (hf:Fit f.nodes.l) (hh:zkb hand.l):pc prog 25 [zaa f,.list hand.n (hand.l.map zai)]=some (.int .i64 (zlh f.nodes.l hand.l)):=by
 refine zQM f hand _ ?_
 unfold P25 zlh
 have hroom:AI.roomBytes=2^46:=rfl
 have h0:pc prog 26 [zaa f,.list true []]=some (.int .i64 (zbH f.nodes.l [])):=zhO f ⟨true,[]⟩ hf (by simp)
 have hone:∀l:List Int,l.length≤2^40→pc prog 26 [zaa f,.list false (l.map (D.int .i64))]=some (.int .i64 (zbH f.nodes.l l)):=fun l hl=>zhO f ⟨false,l⟩ hf hl
 rw[h0,zap (e:=D.int .i64),Option.bind_some]
 by_cases hr:zfn f.nodes.l=true
 case neg=>
  have e:zbH f.nodes.l []=5:=by unfold zbH;rw[if_neg hr]
  rw[e,if_pos (by decide),if_neg hr]
 have e:zbH f.nodes.l []=0:=by unfold zbH;rw[if_pos hr];rfl
 rw[e,if_neg (by decide),if_pos hr]
 rw[zdX (l:=hand.l) (fun x=>decide (4096<x.nodes.l.length)) (fun k=>Sum.inr (k:Int)) (Sum.inl ()) ?_ ?_,Option.bind_some]
 ·have hmany:(if(!(decide ((4096:Int)<(hand.l.length:Int))))=true then
   (match(match hand.l.findIdx? (fun x=>decide (4096<x.nodes.l.length))with|some k=>(Sum.inr (k:Int):Unit⊕Int)|none=>Sum.inl ())with
    | .inl q=>some false
    | .inr q=>some (decide (0≤q)))
   else some true)=some (zfJ hand.l):=by
   unfold zfJ
   by_cases h1:4096<hand.l.length
   ·rw[if_neg (by simp;omega),decide_eq_true h1,Bool.true_or]
   ·rw[if_pos (by simp;omega),decide_eq_false h1,Bool.false_or]
    rcases hx:hand.l.findIdx? (fun x=>decide (4096<x.nodes.l.length))with _|k
    ·rw[hx]
     rw[List.findIdx?_eq_none_iff]at hx
     have:hand.l.any (fun x=>decide (4096<x.nodes.l.length))=false:=by
      rw[List.any_eq_false];intro x hm;rw[hx x hm];simp
     rw[this]
    ·rw[hx]
     rw[List.findIdx?_eq_some_iff_getElem]at hx
     obtain⟨g1,g2,-⟩:=hx
     have:hand.l.any (fun x=>decide (4096<x.nodes.l.length))=true:=List.any_eq_true.2 ⟨_,List.getElem_mem g1,g2⟩
     rw[this]
     simp
  refine(congrArg (fun o=>Option.bind o _) hmany).trans ?_
  show Option.bind (some _) _=_
  rw[Option.bind_some]
  by_cases hm:zfJ hand.l=true
  ·rw[if_pos hm,if_pos hm]
  ·rw[if_neg hm,if_neg hm]
   rw[zgo (l:=hand.l) (fun x=> !((x.slot::x.nodes.l).all fun h=>decide (isN f.nodes.l h))) (Sum.inr ()) (Sum.inl ()) ?_ ?_,Option.bind_some]
   ·have hall:(hand.l.any fun x=> !((x.slot::x.nodes.l).all fun h=>decide (isN f.nodes.l h)))= !(zvD f.nodes.l hand.l):=by
     unfold zvD
     rw[List.all_eq_not_any_not,Bool.not_not]
    rw[hall]
    by_cases ho:zvD f.nodes.l hand.l=true
    ·rw[ho]
     have hA:=zEB f hand hf hh hand.l.length 0 (by omega) [] [] [] [] zpN zpN
     rw[List.drop_zero,show((0:Nat):Int)=0 from rfl]at hA
     simp only[Bool.not_true,Bool.false_eq_true,if_false,if_true,hA,Option.bind_some]
     cases zhT f.nodes.l [] [] hand.l<;>rfl
    ·have ho':zvD f.nodes.l hand.l=false:=by simpa using ho
     rw[ho'];rfl
   ·intro k hk
    have hw:=zaK (show k<2^62 by have:=hh.1;omega)
    have hlen:hand.l[k].nodes.l.length≤4096:=Classical.byContradiction fun hno=>hm (by
     unfold zfJ
     rw[Bool.or_eq_true]
     exact .inr (List.any_eq_true.2 ⟨_,List.getElem_mem hk,decide_eq_true (by omega)⟩))
    have hfl:∀l:List Int,(!(zbH f.nodes.l l==0))= !(l.all fun h=>decide (isN f.nodes.l h)):=fun l=>by
     unfold zbH
     rw[if_pos hr]
     cases l.all (fun h=>decide (isN f.nodes.l h))<;>rfl
    simp only[zeP,zbd hk,Option.bind_some,hw]
    rw[if_pos (decide_eq_true (by omega))]
    by_cases hn:hand.l[k].nodes.l=[]
    ·rw[if_pos hn,hone _ (by simp),zap (e:=D.int .i64),Option.bind_some,hfl,hn]
     split<;>rfl
    ·rw[if_neg hn,if_pos (by rw[hroom];simp only[List.length_cons,List.length_nil];omega),hone _ (by simp;omega),zap (e:=D.int .i64),Option.bind_some,hfl,List.singleton_append]
     split<;>rfl
   ·simp only[zeP]
    rw[if_neg (by simp)]
 ·intro k hk
  have hw:=zaK (show k<2^62 by have:=hh.1;omega)
  simp only[zeO,zbd hk,Option.bind_some,zAz,zap (e:=D.bool)]
  rw[if_pos (decide_eq_true (by omega)),hw]
  split<;>rfl
 ·simp only[zeO]
  rw[if_neg (by simp)]
noncomputable def ziS (f:List Node) (hand:List Assign) (h:Int):Int×Int:=if zlh f hand=0 then(if isN f h then((zbQ f hand h).1,0)else(0,2))else(0,zlh f hand)
theorem zmd (f:Forest) (hand:Sl Assign) (h:Int) (hf:Fit f.nodes.l) (hh:zkb hand.l):pc prog 51 [zaa f,.list hand.n (hand.l.map zai),.int .i64 h,.bool false]=some (eT2 (D.int .i64) (D.int .i64) (ziS f.nodes.l hand.l h)):=by
 refine zQL f hand h false _ ?_
 unfold P51 ziS
 rw[zlf f hand hf hh,zap (e:=D.int .i64),Option.bind_some]
 by_cases h0:zlh f.nodes.l hand.l=0
 ·have hr:=zeQ h0
  rw[h0,if_pos (by decide),if_pos rfl,zlc f h hf,zap (e:=D.int .i64),Option.bind_some,Option.bind_some]
  by_cases hi:isN f.nodes.l h
  ·have e:zbH f.nodes.l [h]=0:=ziM.2 ⟨hr,by simpa using hi⟩
   rw[e,if_neg (by decide),if_pos hi,show(⟨⟨f.nodes⟩,hand⟩:shadow_by)=⟨f,hand⟩from rfl,zEA f hand h hf hr hh,zap (e:=eT2 (D.int .i64) (D.int .i64)),Option.bind_some,if_neg (by simp)]
  ·have e:zbH f.nodes.l [h]=2:=by unfold zbH;rw[if_pos (zdv.2 hr),if_neg (by simpa using hi)]
   rw[e,if_pos (by decide),if_neg hi]
 ·rw[if_neg (by simpa using h0),if_neg h0,Option.bind_some,if_pos (by simpa using h0)]
end Go.Proofs.YthodcjjgimeeoaaGreat.P
