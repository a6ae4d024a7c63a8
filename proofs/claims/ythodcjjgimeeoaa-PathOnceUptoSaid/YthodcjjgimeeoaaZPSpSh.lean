/- Shaken copy of a longer text: what one law needs. Its conditions: none. -/
import Derived.Test.YthodcjjgimeeoaaZPSpPa
import Derived.Test.YthodcjjgimeeoaaZPDecP
import Derived.Test.YthodcjjgimeeoaaZPSpFlt
set_option linter.unusedSimpArgs false
set_option linter.unusedVariables false
set_option linter.unusedSimpArgs false
set_option linter.unusedVariables false
set_option linter.unusedSectionVars false
set_option linter.unnecessarySimpa false
namespace Go.Proofs.Ythodcjjgimeeoaa.P
open Go.AI
theorem zkP {α ρ:Type} {step:Int→Option (Int⊕ρ)} {l:List α} (p:α→Bool) (f:α→ρ) (e:ρ) (h:∀k (hk:k<l.length),step (k:Int)=some (if p l[k]=true then .inr (f l[k])else .inl ((k+1:Nat):Int))) (he:step (l.length:Int)=some (.inr e)):zaU step 0=some (match l.find? p with|some a=>f a|none=>e):=by
 have key:∀n k,k+n=l.length→zaU step (k:Int)=some (match(l.drop k).find? p with|some a=>f a|none=>e):=by
  intro n
  induction n with
  |zero=>
   intro k hk
   obtain rfl:k=l.length:=by omega
   rw[List.drop_length];exact zaH he
  |succ n ih=>
   intro k hk
   have hl:k<l.length:=by omega
   rw[List.drop_eq_getElem_cons hl,List.find?_cons]
   rcases hp:p l[k]with _|_
   ·rw[zaP (y:=((k+1:Nat):Int)) (by rw[h k hl,hp];rfl)]
    exact ih (k+1) (by omega)
   ·exact zaH (by rw[h k hl,hp];rfl)
 have:=key l.length 0 (by omega)
 rw[List.drop_zero]at this
 exact this
theorem zkQ {α ρ:Type} {step:Unit→α→Option (Unit⊕ρ)} (p:α→Bool) (f:α→ρ):∀l:List α,(∀a∈l,step () a=some (if p a=true then .inr (f a)else .inl ()))→foldI step () l=some (match l.find? p with|some a=> .inr (f a)|none=> .inl ())
 |[],_=>rfl
 |a::l,h=>by
  simp only[foldI,h a List.mem_cons_self,Option.bind_some,List.find?_cons]
  rcases p a with _|_
  ·exact zkQ p f l fun b hb=>h b (List.mem_cons_of_mem _ hb)
  ·rfl
def zry (l:List Assign):Prop:=l.length≤2^40∧∀x∈l,x.nodes.l.length≤2^40
def zrz (hand:List Assign) (slot:Int):Sl Int:=match hand.find? (fun x=>x.slot==slot)with|some x=>x.nodes|none=>⟨true,[]⟩
theorem zrA {hand:List Assign} {slot:Int}:(zrz hand slot).l=zol hand slot:=by
 unfold zrz zol
 rcases hx:hand.find? (fun x=>x.slot==slot)with _|x<;>simp only[hx]
theorem zyw {hand:List Assign} (hh:zry hand) (slot:Int):(zol hand slot).length≤2^40:=by
 unfold zol
 rcases hx:hand.find? (fun x=>x.slot==slot)with _|x
 ·rw[hx];simp
 ·rw[hx];exact hh.2 x (List.mem_of_find?_eq_some hx)
theorem zyx (b:shadow_by) (x:Int) (hh:zry b.hand.l):pc prog 171 [zaQ b,.int .i64 x]=some (eSl (D.int .i64) (zrz b.hand.l x)):=by
 refine zLx b x _ ?_
 unfold zLw
 rw[zkP (l:=b.hand.l) (fun y=>y.slot==x) (fun y=>Sum.inr y.nodes) (Sum.inl ()) ?_ ?_,Option.bind_some]
 ·unfold zrz
  rcases hx:b.hand.l.find? (fun y=>y.slot==x)with _|y<;>simp only[hx]
 ·intro k hk
  have hw:=zba (show k<2^62 by have:=hh.1;omega)
  simp only[zdL,zbU hk,Option.bind_some,hw]
  rw[if_pos (decide_eq_true (by omega))]
  split<;>rfl
 ·simp only[zdL]
  rw[if_neg (by simp)]
theorem zop (n:Node) (s:List UInt8) (hl:n.attrs.l.length≤2^40):∃b,pc prog 172 [zam n,.str s]=some (eT2 D.str D.bool (zrw n s,b)):=by
 refine⟨(n.attrs.l.find? (fun a=>a.name.space==[]&&a.name.local_==s)).isSome,zLz n s _ ?_⟩
 unfold zLy
 rw[zkP (l:=n.attrs.l) (fun a=>a.name.space==[]&&a.name.local_==s) (fun a=>Sum.inr a.value) (Sum.inl ()) ?_ ?_,Option.bind_some]
 ·unfold zrw
  rcases hx:n.attrs.l.find? (fun a=>a.name.space==[]&&a.name.local_==s)with _|y<;>simp only[hx]<;>rfl
 ·intro k hk
  have hw:=zba (show k<2^62 by omega)
  simp only[zdM,zbU hk,Option.bind_some,hw,zyJ]
  rw[if_pos (decide_eq_true (by omega))]
  split<;>rfl
 ·simp only[zdM]
  rw[if_neg (by simp)]
theorem zoq (l:Sl Int) (x:Int) (hl:l.l.length≤2^40):pc prog 170 [.list l.n (l.l.map (D.int .i64)),.int .i64 x]=some (.bool (l.l.contains x)):=by
 refine zLv l x _ ?_
 unfold zLu
 rw[zyl l x hl,zaA (e:=D.int .i64),Option.bind_some]
 congr 1
 rw[Bool.eq_iff_iff,decide_eq_true_iff,zlZ,List.contains_iff_mem]
theorem zCb (k:Int):pc prog 167 [.int .u8 k]=some (.bool (k==3||k==4)):=by
 refine zLr k _ ?_
 unfold zLq
 simp only[bor]
theorem zgZ (n:Node):pc prog 130 [zam n]=some (.bool (zbS n.kind)):=by
 refine zLn n _ ?_
 unfold zLm zbS
 rw[zCb,zaA (e:=D.bool),Option.bind_some]
 cases n.kind==1<;>simp
theorem zfE (n:Node):pc prog 129 [zam n]=some (.bool (zjO n)):=by
 refine zLl n _ ?_
 unfold zLk zjO
 have e:decide (n.name=(⟨zBT,n.name.prefix_,zyp⟩:Name))=(n.name.space==zBT&&n.name.local_==zyp):=by
  rw[Bool.eq_iff_iff,decide_eq_true_iff,Bool.and_eq_true,beq_iff_eq,beq_iff_eq]
  constructor
  ·intro h;exact⟨congrArg Name.space h,congrArg Name.local_ h⟩
  ·rintro⟨h1,h2⟩
   rcases hn:n.name with⟨a,b,c⟩
   rw[hn]at h1 h2
   simp only at h1 h2
   rw[h1,h2]
 rw[show([104,116,116,112,58,47,47,119,119,119,46,119,51,46,111,114,103,47,49,57,57,57,47,120,104,116,109,108]:List UInt8)=zBT from rfl,show([115,108,111,116]:List UInt8)=zyp from rfl,e]
 cases n.kind==1<;>simp
theorem zor {f:List Node} (hf:Fit f) (h:Int):(nodeD f h).attrs.l.length≤2^40:=by
 unfold nodeD
 rcases e:zcF f h with _|n
 ·simp[nd0]
 ·exact(hf.2 n (zjG e)).1
theorem zCc (b:shadow_by) (x h:Int) (m:Bool) (hf:Fit b.f.nodes.l) (hh:zry b.hand.l):pc prog 136 [zaQ b,.int .i64 x,.int .i64 h,.bool m]=some (.bool (zqd b.f.nodes.l b.hand.l x h m)):=by
 refine zLp b x h m _ ?_
 unfold zLo zqd
 obtain⟨b1,h1⟩:=zop (nodeD b.f.nodes.l x) [110,97,109,101] (zor hf x)
 obtain⟨b2,h2⟩:=zop (nodeD b.f.nodes.l h) [115,108,111,116] (zor hf h)
 cases m with
 |true=>
  rw[if_pos rfl,if_pos rfl,zyx b x hh,zaA (e:=eSl (D.int .i64)),Option.bind_some,zoq _ _ (by rw[zrA];exact zyw hh x),zaA (e:=D.bool),Option.bind_some,zrA]
 |false=>
  rw[if_neg (by simp),if_neg (by simp)]
  simp only[zeo b.f _ hf.1,zaA (e:=zam),Option.bind_some,h1,h2,zaA (e:=eT2 D.str D.bool)]
  split<;>rfl
theorem zCd (f:Forest) (hand:Sl Assign) (h:Int) (hf:Fit f.nodes.l) (hr:zaK f.nodes.l) (hh:zry hand.l):pc prog 91 [zaQ ⟨f,hand⟩,.int .i64 h]=some (eT2 (D.int .i64) (D.int .i64) (zcd f.nodes.l hand.l h)):=by
 refine zMl ⟨f,hand⟩ h _ ?_
 unfold P91 zcd
 simp only[zeo f _ hf.1,zaA (e:=zam),Option.bind_some,zgZ,zaA (e:=D.bool)]
 rw[show(nodeD f.nodes.l h).parent=par f.nodes.l h from rfl]
 by_cases hc:zbS (nodeD f.nodes.l h).kind=true∧(nodeD f.nodes.l (par f.nodes.l h)).shadow≠0
 ·obtain⟨h1,h2,h3⟩:=zci hr hc.2
  rw[if_neg (by rw[hc.1];simpa using hc.2),if_pos hc,zon hf hr h2,Option.bind_some]
  rw[zkQ (fun x=>zjO (nodeD f.nodes.l x)&&zqd f.nodes.l hand.l x h (nodeD f.nodes.l (nodeD f.nodes.l (par f.nodes.l h)).shadow).manual) (fun x=>x) _ ?_,Option.bind_some]
  ·rcases hx:(zkM f.nodes.l (nodeD f.nodes.l (par f.nodes.l h)).shadow).find? (fun x=>zjO (nodeD f.nodes.l x)&&zqd f.nodes.l hand.l x h (nodeD f.nodes.l (nodeD f.nodes.l (par f.nodes.l h)).shadow).manual)with _|x<;>simp only[hx]
  ·intro x hx
   simp only[zfB,zeo f _ hf.1,zaA (e:=zam),Option.bind_some,zfE,zaA (e:=D.bool),zCc ⟨f,hand⟩ _ _ _ hf hh]
   cases zjO (nodeD f.nodes.l x)
   ·rfl
   ·cases zqd f.nodes.l hand.l x h (nodeD f.nodes.l (nodeD f.nodes.l (par f.nodes.l h)).shadow).manual<;>rfl
 ·rw[if_pos (by
   rcases h1:zbS (nodeD f.nodes.l h).kind with _|_
   ·rfl
   ·have:(nodeD f.nodes.l (par f.nodes.l h)).shadow=0:=Classical.byContradiction fun h2=>hc ⟨h1,h2⟩
    rw[this];rfl),if_neg hc]
def zyy (hand:List Assign):Bool:=decide (4096<hand.length)||hand.any (fun x=>decide (4096<x.nodes.l.length))
def zIl (f:List Node) (hand:List Assign):Bool:=hand.all fun x=>(x.slot::x.nodes.l).all fun h=>decide (isN f h)
def zhP (f:List Node):List Int→List Int→Option (List Int)
 |s,[]=>some s
 |s,h::r=>if(s.contains h|| !zbS (nodeD f h).kind)=true then none else zhP f (h::s) r
def ztY (f:List Node):List Int→List Int→List Assign→Bool
 |_,_,[]=>true
 |s,t,x::r=>if(s.contains x.slot|| !zjO (nodeD f x.slot))=true then false else match zhP f t x.nodes.l with|some t'=>ztY f (x.slot::s) t' r|none=>false
noncomputable def zqi (f:List Node) (hand:List Assign):Int:=if zgS f=true then(if zyy hand=true then 3 else if zIl f hand=true then(if ztY f [] [] hand=true then 0 else 23)else 2)else 5
theorem zdN {f:List Node} {hand:List Assign} (h:zqi f hand=0):zaK f:=by
 unfold zqi at h
 by_cases hr:zgS f=true
 ·exact zdk.1 hr
 ·rw[if_neg hr]at h;cases h
def zqj (m:List (Int×Bool)) (s:List Int):Prop:=∀k,zhb k m false=s.contains k
theorem zos:zqj [] []:=fun k=>rfl
theorem zot {m:List (Int×Bool)} {s:List Int} (h:zqj m s) (x:Int):zqj (zeT x true m) (x::s):=fun k=>by
 rw[zlU,h k,List.contains_cons]
 by_cases e:k=x
 ·rw[if_pos e,e];simp
 ·rw[if_neg e,beq_false_of_ne e,Bool.false_or]
theorem ztZ (f:Forest) (hand:Sl Assign) (hf:Fit f.nodes.l) (x2:List (Int×Bool)×List (Int×Bool)×Int) (y:Assign) (hy:y.nodes.l.length≤2^40):∀n k,k+n=y.nodes.l.length→∀(m:List (Int×Bool)) (s:List Int),zqj m s→
 (zhP f.nodes.l s (y.nodes.l.drop k)=none∧zaU (zct f hand x2 y) (m,(k:Int))=some (.inr ()))∨∃s' m',zhP f.nodes.l s (y.nodes.l.drop k)=some s'∧zaU (zct f hand x2 y) (m,(k:Int))=some (.inl m')∧zqj m' s':=by
 intro n
 induction n with
 |zero=>
  intro k hk m s hm
  obtain rfl:k=y.nodes.l.length:=by omega
  rw[List.drop_length]
  refine .inr ⟨s,m,rfl,zaH ?_,hm⟩
  simp only[zct]
  rw[if_neg (by simp)]
 |succ n ih=>
  intro k hk m s hm
  have hl:k<y.nodes.l.length:=by omega
  have hw:=zba (show k<2^62 by omega)
  rw[List.drop_eq_getElem_cons hl]
  have hstep:zct f hand x2 y (m,(k:Int))=some (if(s.contains y.nodes.l[k]|| !zbS (nodeD f.nodes.l y.nodes.l[k]).kind)=true then .inr (.inr ())else .inl (zeT y.nodes.l[k] true m,((k+1:Nat):Int))):=by
   simp only[zct,zbU hl,Option.bind_some,hw,zeo f _ hf.1,zaA (e:=zam),zgZ,zaA (e:=D.bool),hm y.nodes.l[k]]
   rw[if_pos (decide_eq_true (by omega))]
   cases s.contains y.nodes.l[k]<;>cases zbS (nodeD f.nodes.l y.nodes.l[k]).kind<;>rfl
  by_cases hc:(s.contains y.nodes.l[k]|| !zbS (nodeD f.nodes.l y.nodes.l[k]).kind)=true
  ·rw[if_pos hc]at hstep
   left
   exact⟨by rw[zhP,if_pos hc],zaH hstep⟩
  ·rw[if_neg hc]at hstep
   rw[zhP,if_neg hc,zaP hstep]
   exact ih (k+1) (by omega) _ _ (zot hm _)
theorem zCe (f:Forest) (hand:Sl Assign) (hf:Fit f.nodes.l) (hh:zry hand.l):∀n k,k+n=hand.l.length→∀(m1 m2:List (Int×Bool)) (s t:List Int),zqj m1 s→zqj m2 t→
 zaU (zcu f hand) (m1,m2,(k:Int))=some (if ztY f.nodes.l s t (hand.l.drop k)=true then .inl ()else .inr ()):=by
 intro n
 induction n with
 |zero=>
  intro k hk m1 m2 s t h1 h2
  obtain rfl:k=hand.l.length:=by omega
  rw[List.drop_length,ztY,if_pos rfl]
  refine zaH ?_
  simp only[zcu]
  rw[if_neg (by simp)]
 |succ n ih=>
  intro k hk m1 m2 s t h1 h2
  have hl:k<hand.l.length:=by omega
  have hw:=zba (show k<2^62 by have:=hh.1;omega)
  rw[List.drop_eq_getElem_cons hl,ztY]
  have hin:=ztZ f hand hf (m1,m2,(k:Int)) hand.l[k] (hh.2 _ (List.getElem_mem hl)) hand.l[k].nodes.l.length 0 (by omega) m2 t h2
  rw[List.drop_zero,show((0:Nat):Int)=0 from rfl]at hin
  by_cases hc:(s.contains hand.l[k].slot|| !zjO (nodeD f.nodes.l hand.l[k].slot))=true
  ·rw[if_pos hc,if_neg (by simp)]
   refine zaH ?_
   simp only[zcu,zbU hl,Option.bind_some,hw,zeo f _ hf.1,zaA (e:=zam),zfE,zaA (e:=D.bool),h1 hand.l[k].slot]
   rw[if_pos (decide_eq_true (by omega))]
   cases h3:s.contains hand.l[k].slot
   ·rw[h3]at hc
    rw[if_pos (show(!false)=true from rfl),if_pos (by simpa using hc)]
   ·rw[if_neg (by simp)]
  ·rw[if_neg hc]
   have h3:s.contains hand.l[k].slot=false∧zjO (nodeD f.nodes.l hand.l[k].slot)=true:=by simpa using hc
   rcases hin with⟨g1,g2⟩|⟨t',m',g1,g2,g3⟩
   ·rw[g1]
    dsimp only
    rw[if_neg (by simp)]
    refine zaH ?_
    simp only[zcu,zbU hl,Option.bind_some,hw,zeo f _ hf.1,zaA (e:=zam),zfE,zaA (e:=D.bool),h1 hand.l[k].slot,h3.1,h3.2,g2]
    rw[if_pos (decide_eq_true (by omega))];rfl
   ·rw[g1]
    dsimp only
    rw[zaP (y:=(zeT hand.l[k].slot true m1,m',((k+1:Nat):Int)))]
    ·exact ih (k+1) (by omega) _ _ _ _ (zot h1 _) g3
    ·simp only[zcu,zbU hl,Option.bind_some,hw,zeo f _ hf.1,zaA (e:=zam),zfE,zaA (e:=D.bool),h1 hand.l[k].slot,h3.1,h3.2,g2]
     rw[if_pos (decide_eq_true (by omega))];rfl
theorem zyz (x:Assign):pc prog 128 [zap x]=some (.bool (decide (4096<x.nodes.l.length))):=by
 refine zLt x _ ?_
 unfold zLs
 rw[show decide ((4096:Int)<(x.nodes.l.length:Int))=decide (4096<x.nodes.l.length) by rw[decide_eq_decide];omega]
theorem zjR (f:Forest) (hand:Sl Assign) (hf:Fit f.nodes.l) (hh:zry hand.l):pc prog 89 [zae f,.list hand.n (hand.l.map zap)]=some (.int .i64 (zqi f.nodes.l hand.l)):=by
 refine zMk f hand _ ?_
 unfold P89 zqi
 have hroom:AI.roomBytes=2^46:=rfl
 have h0:pc prog 82 [zae f,.list true []]=some (.int .i64 (zbV f.nodes.l [])):=zgT f ⟨true,[]⟩ hf (by simp)
 have hone:∀l:List Int,l.length≤2^40→pc prog 82 [zae f,.list false (l.map (D.int .i64))]=some (.int .i64 (zbV f.nodes.l l)):=fun l hl=>zgT f ⟨false,l⟩ hf hl
 rw[h0,zaA (e:=D.int .i64),Option.bind_some]
 by_cases hr:zgS f.nodes.l=true
 case neg=>
  have e:zbV f.nodes.l []=5:=by unfold zbV;rw[if_neg hr]
  rw[e,if_pos (by decide),if_neg hr]
 have e:zbV f.nodes.l []=0:=by unfold zbV;rw[if_pos hr];rfl
 rw[e,if_neg (by decide),if_pos hr]
 rw[zgR (l:=hand.l) (fun x=>decide (4096<x.nodes.l.length)) (fun k=>Sum.inr (k:Int)) (Sum.inl ()) ?_ ?_,Option.bind_some]
 ·have hmany:(if(!(decide ((4096:Int)<(hand.l.length:Int))))=true then
   (match(match hand.l.findIdx? (fun x=>decide (4096<x.nodes.l.length))with|some k=>(Sum.inr (k:Int):Unit⊕Int)|none=>Sum.inl ())with
    | .inl q=>some false
    | .inr q=>some (decide (0≤q)))
   else some true)=some (zyy hand.l):=by
   unfold zyy
   by_cases h1:4096<hand.l.length
   ·rw[if_neg (by simp;omega),decide_eq_true h1,Bool.true_or]
   ·rw[if_pos (by simp;omega),decide_eq_false h1,Bool.false_or]
    rcases hx:hand.l.findIdx? (fun x=>decide (4096<x.nodes.l.length))with _|k
    ·rw[hx]
     rw[List.findIdx?_eq_none_iff]at hx
     have:hand.l.any (fun x=>decide (4096<x.nodes.l.length))=false:=by
      rw[List.any_eq_false];intro x hm;rw[hx x hm];simp
     rw[this]
    ·rw[hx]
     rw[List.findIdx?_eq_some_iff_getElem]at hx
     obtain⟨g1,g2,-⟩:=hx
     have:hand.l.any (fun x=>decide (4096<x.nodes.l.length))=true:=List.any_eq_true.2 ⟨_,List.getElem_mem g1,g2⟩
     rw[this]
     simp
  refine(congrArg (fun o=>Option.bind o _) hmany).trans ?_
  show Option.bind (some _) _=_
  rw[Option.bind_some]
  by_cases hm:zyy hand.l=true
  ·rw[if_pos hm,if_pos hm]
  ·rw[if_neg hm,if_neg hm]
   rw[zlP (l:=hand.l) (fun x=> !((x.slot::x.nodes.l).all fun h=>decide (isN f.nodes.l h))) (Sum.inr ()) (Sum.inl ()) ?_ ?_,Option.bind_some]
   ·have hall:(hand.l.any fun x=> !((x.slot::x.nodes.l).all fun h=>decide (isN f.nodes.l h)))= !(zIl f.nodes.l hand.l):=by
     unfold zIl
     rw[List.all_eq_not_any_not,Bool.not_not]
    rw[hall]
    by_cases ho:zIl f.nodes.l hand.l=true
    ·rw[ho]
     have hA:=zCe f hand hf hh hand.l.length 0 (by omega) [] [] [] [] zos zos
     rw[List.drop_zero,show((0:Nat):Int)=0 from rfl]at hA
     simp only[Bool.not_true,Bool.false_eq_true,if_false,if_true,hA,Option.bind_some]
     cases ztY f.nodes.l [] [] hand.l<;>rfl
    ·have ho':zIl f.nodes.l hand.l=false:=by simpa using ho
     rw[ho'];rfl
   ·intro k hk
    have hw:=zba (show k<2^62 by have:=hh.1;omega)
    have hlen:hand.l[k].nodes.l.length≤4096:=Classical.byContradiction fun hno=>hm (by
     unfold zyy
     rw[Bool.or_eq_true]
     exact .inr (List.any_eq_true.2 ⟨_,List.getElem_mem hk,decide_eq_true (by omega)⟩))
    have hfl:∀l:List Int,(!(zbV f.nodes.l l==0))= !(l.all fun h=>decide (isN f.nodes.l h)):=fun l=>by
     unfold zbV
     rw[if_pos hr]
     cases l.all (fun h=>decide (isN f.nodes.l h))<;>rfl
    simp only[zer,zbU hk,Option.bind_some,hw]
    rw[if_pos (decide_eq_true (by omega))]
    by_cases hn:hand.l[k].nodes.l=[]
    ·rw[if_pos hn,hone _ (by simp),zaA (e:=D.int .i64),Option.bind_some,hfl,hn]
     split<;>rfl
    ·rw[if_neg hn,if_pos (by rw[hroom];simp only[List.length_cons,List.length_nil];omega),hone _ (by simp;omega),zaA (e:=D.int .i64),Option.bind_some,hfl,List.singleton_append]
     split<;>rfl
   ·simp only[zer]
    rw[if_neg (by simp)]
 ·intro k hk
  have hw:=zba (show k<2^62 by have:=hh.1;omega)
  simp only[zeq,zbU hk,Option.bind_some,zyz,zaA (e:=D.bool)]
  rw[if_pos (decide_eq_true (by omega)),hw]
  split<;>rfl
 ·simp only[zeq]
  rw[if_neg (by simp)]
noncomputable def zfb (f:List Node) (hand:List Assign) (h:Int):Int×Int:=if zqi f hand=0 then(if isN f h then((zcd f hand h).1,0)else(0,2))else(0,zqi f hand)
theorem zhQ (f:Forest) (hand:Sl Assign) (h:Int) (hf:Fit f.nodes.l) (hh:zry hand.l):pc prog 44 [zae f,.list hand.n (hand.l.map zap),.int .i64 h,.bool false]=some (eT2 (D.int .i64) (D.int .i64) (zfb f.nodes.l hand.l h)):=by
 refine zMj f hand h false _ ?_
 unfold P44 zfb
 rw[zjR f hand hf hh,zaA (e:=D.int .i64),Option.bind_some]
 by_cases h0:zqi f.nodes.l hand.l=0
 ·have hr:=zdN h0
  rw[h0,if_pos (by decide),if_pos rfl,zgY f h hf,zaA (e:=D.int .i64),Option.bind_some,Option.bind_some]
  by_cases hi:isN f.nodes.l h
  ·have e:zbV f.nodes.l [h]=0:=zfy.2 ⟨hr,by simpa using hi⟩
   rw[e,if_neg (by decide),if_pos hi,show(⟨⟨f.nodes⟩,hand⟩:shadow_by)=⟨f,hand⟩from rfl,zCd f hand h hf hr hh,zaA (e:=eT2 (D.int .i64) (D.int .i64)),Option.bind_some,if_neg (by simp)]
  ·have e:zbV f.nodes.l [h]=2:=by unfold zbV;rw[if_pos (zdk.2 hr),if_neg (by simpa using hi)]
   rw[e,if_pos (by decide),if_neg hi]
 ·rw[if_neg (by simpa using h0),if_neg h0,Option.bind_some,if_pos (by simpa using h0)]
end Go.Proofs.Ythodcjjgimeeoaa.P
