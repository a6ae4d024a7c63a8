/- Shaken copy of a longer text: what one law needs. Its conditions: none. -/
import Derived.Test.YthodcjjgimeeoaaZPSpFo1
set_option linter.unusedSimpArgs false
set_option linter.unusedVariables false
set_option linter.unusedSimpArgs false
set_option linter.unusedVariables false
set_option linter.unusedSectionVars false
set_option linter.unnecessarySimpa false
namespace Go.Proofs.Ythodcjjgimeeoaa.P
open Go.AI
section
variable {K:Type} [DecidableEq K] {α:Type}
theorem zoc (k:K):∀(l:List (K×α)) (t u:Nat),(zbv k l t).map Prod.fst=(zbv k l u).map Prod.fst
 |[],_,_=>rfl
 |(k',a)::l,t,u=>by
  unfold zbv
  split
  ·rfl
  ·exact zoc k l _ _
theorem zrn (k:K) (l:List (K×α)) (z:α):zhb k l z=((zbv k l 0).map Prod.fst).getD z:=by
 unfold zhb
 rcases zbv k l 0 with _|⟨a,i⟩<;>rfl
theorem zBG (k:K) (z:α):zhb k [] z=z:=rfl
theorem zeX (k k':K) (a z:α) (l:List (K×α)):zhb k ((k',a)::l) z=if k=k' then a else zhb k l z:=by
 rw[zrn,zrn]
 show(Option.map Prod.fst (if k=k' then some (a,0)else zbv k l (0+1))).getD z=_
 by_cases h:k=k'
 ·rw[if_pos h,if_pos h];rfl
 ·rw[if_neg h,if_neg h,zoc k l _ 0]
theorem zlU (k k':K) (a z:α):∀l:List (K×α),zhb k (zeT k' a l) z=if k=k' then a else zhb k l z
 |[]=>by unfold zeT;rw[zeX]
 |(k2,b)::l=>by
  unfold zeT
  by_cases h:k'=k2
  ·subst h
   rw[if_pos rfl,zeX,zeX]
   split<;>rfl
  ·rw[if_neg h,zeX,zeX,zlU k k' a z l]
   by_cases h2:k=k2
   ·subst h2;rw[if_pos rfl,if_pos rfl,if_neg (fun e=>h e.symm)]
   ·rw[if_neg h2,if_neg h2]
end
def zod {α K:Type} [DecidableEq K] (key:α→K) (p:α→Bool):List α→List α→Bool
 |_,[]=>true
 |pre,a::r=>p a&& !(pre.any fun b=>decide (key b=key a))&&zod key p (pre++[a]) r
theorem zoe {α K:Type} [DecidableEq K] {step:List (K×Int)×Int→Option ((List (K×Int)×Int)⊕(Unit⊕Unit))} {l:List α} (key:α→K) (p:α→Bool)
 (h:∀k (hk:k<l.length) m,step (m,(k:Int))=some (if(p l[k]&& !(decide (0<zhb (key l[k]) m 0)))=true then .inl (zeT (key l[k]) (IntKind.i64.wrap (zhb (key l[k]) m 0+1)) m,((k+1:Nat):Int))else .inr (.inr ())))
 (he:∀m,step (m,(l.length:Int))=some (.inr (.inl ()))):zaU step ([],0)=some (if zod key p [] l=true then .inl ()else .inr ()):=by
 have key':∀n k,k+n=l.length→∀m,(∀q,zhb q m 0=if(l.take k).any (fun b=>decide (key b=q))=true then 1 else 0)→zaU step (m,(k:Int))=some (if zod key p (l.take k) (l.drop k)=true then .inl ()else .inr ()):=by
  intro n
  induction n with
  |zero=>
   intro k hk m _
   obtain rfl:k=l.length:=by omega
   rw[List.drop_length];exact zaH (he m)
  |succ n ih=>
   intro k hk m hm
   have hl:k<l.length:=by omega
   have h1:=h k hl m
   rw[List.drop_eq_getElem_cons hl]
   unfold zod
   have hz:=hm (key l[k])
   have hd:decide (0<zhb (key l[k]) m 0)=(l.take k).any fun b=>decide (key b=key l[k]):=by
    rw[hz]
    cases(l.take k).any fun b=>decide (key b=key l[k])<;>rfl
   rw[hd]at h1
   by_cases hp:(p l[k]&& !((l.take k).any fun b=>decide (key b=key l[k])))=true
   ·rw[if_pos hp]at h1
    rw[hp,Bool.true_and,←List.take_succ_eq_append_getElem hl]
    rw[zaP h1,ih (k+1) (by omega)]
    intro q
    rw[zlU,List.take_succ_eq_append_getElem hl,List.any_append,hm q]
    simp only[List.any_cons,List.any_nil,Bool.or_false]
    by_cases hq:q=key l[k]
    ·subst hq
     rw[if_pos rfl]
     simp only[Bool.and_eq_true,Bool.not_eq_true']at hp
     rw[hz,hp.2]
     simp only[Bool.false_eq_true,if_false,decide_true,Bool.or_true,if_true]
     rw[w64]<;>omega
    ·rw[if_neg hq,show decide (key l[k]=q)=false by rw[decide_eq_false_iff_not];exact fun e=>hq e.symm,Bool.or_false]
   ·rw[if_neg hp]at h1
    rw[zaH h1]
    simp only[Bool.not_eq_true]at hp
    rw[hp];simp
 exact key' l.length 0 (by omega) [] (fun q=>by simp[zBG])
theorem zkI:∀(pre l:List Attr),zob pre l=zod (fun a:Attr=>(⟨a.name.space,a.name.local_⟩:forest_key)) (fun a=>zij a.name&&decide (a.value.length≤4096)) pre l
 |_,[]=>rfl
 |pre,a::r=>by
  unfold zob zod
  rw[zkI (pre++[a]) r]
  congr 3
  congr 1
  funext b
  unfold zIa
  rw[Bool.eq_iff_iff]
  simp
theorem zxZ (l:Sl Attr) (hl:l.l.length≤2^40):pc prog 185 [.list l.n (l.l.map zbm)]=some (.bool (zrm l.l)):=by
 refine zKR l _ ?_
 unfold zKQ zrm
 by_cases h64:64<l.l.length
 ·rw[if_pos (decide_eq_true (by omega)),decide_eq_false (by omega)];rfl
 ·rw[if_neg (by simp;omega),decide_eq_true (by omega)]
  rw[zoe (l:=l.l) (fun a:Attr=>(⟨a.name.space,a.name.local_⟩:forest_key)) (fun a=>zij a.name&&decide (a.value.length≤4096)) ?_ ?_,Option.bind_some,←zkI]
  ·cases zob [] l.l<;>rfl
  ·intro k hk m
   have hw:=zba (show k<2^62 by omega)
   simp only[zdC,zbU hk,Option.bind_some,hw,zoa,zEV,zaA (e:=D.bool),zaA (e:=zai),bor]
   rw[if_pos (decide_eq_true (by omega)),show decide ((4096:Int)<(l.l[k].value.length:Int))= !(decide (l.l[k].value.length≤4096)) by rw[←decide_not,decide_eq_decide];omega]
   by_cases hg:0<zhb (⟨l.l[k].name.space,l.l[k].name.local_⟩:forest_key) m 0
   ·simp only[hg,decide_true]
    cases zij l.l[k].name<;>cases decide (l.l[k].value.length≤4096)<;>rfl
   ·simp only[hg,decide_false]
    cases zij l.l[k].name<;>cases decide (l.l[k].value.length≤4096)<;>rfl
  ·intro m
   simp only[zdC]
   rw[if_neg (by simp)]
def zlV (n:Node):Bool:=
 if n.kind=1 then zij n.name else if n.kind=7∨n.kind=10 then !(n.name.local_==[])&&decide (n.name.local_.length≤1024)&&decide (n.name=⟨[],[],n.name.local_⟩)else decide (n.name=⟨[],[],[]⟩)
theorem ztL (n:Node):pc prog 184 [zam n,zaF (znZ n.kind)]=some (.bool (zlV n)):=by
 refine zKP n _ _ ?_
 unfold zKO zlV znZ
 rw[zoa,short_list _ (by simp)]
 simp only[zaA (e:=D.bool),Option.bind_some,zjF,List.all_cons,List.all_nil,Bool.and_true]
 by_cases h1:n.kind=1
 ·simp[h1]
 by_cases h2:n.kind=7
 ·simp only[h2]
  cases(n.name.local_==[])<;>cases decide (n.name.local_.length≤1024)<;>rfl
 by_cases h3:n.kind=10
 ·simp only[h3]
  cases(n.name.local_==[])<;>cases decide (n.name.local_.length≤1024)<;>rfl
 simp[h1,h2,h3]
def zpX (n:Node):Bool:=
 zrl n.kind&&zlV n&&zrm n.attrs.l&&decide (n.public_.length≤1024)&&decide (n.system.length≤1024)&&(n.kind==10||(n.public_==[]&&n.system==[]))&&decide (n.data.l.length≤16384)&&
 (znY n.kind||n.data.l.length==0)&&(zxX n.kind||n.kids.l.length==0)&&(n.kind==1||(n.attrs.l.length==0&&n.shadow==0))&&(n.kind==9|| !n.hTML)&&((n.kind==1||znY n.kind||n.kind==10)||n.parent==0)&&
 (if n.kind=12 then n.mode==1||n.mode==2 else n.mode==0&& !n.manual&&n.host==0)
theorem zEW {α:Type} (l:List α):decide ((0:Int)<(l.length:Int))= !(l.length==0):=by
 cases l<;>simp<;>omega
theorem zIb {α:Type} (l:List α) (k:Nat):decide ((k:Int)<(l.length:Int))= !(decide (l.length≤k)):=by rw[←decide_not,decide_eq_decide];omega
theorem zBH {α β:Type} {c:Bool} {x y:Option α} {f:α→Option β}:(bif c then x else y).bind f=bif c then x.bind f else y.bind f:=by cases c<;>rfl
theorem zro {α:Type} {c:Bool} {x y:α}:(bif c then some x else some y)=some (bif c then x else y):=by cases c<;>rfl
theorem zJM {α:Type} {b:Bool} {inst:Decidable (b=true)} {x y:α}: @ite α (b=true) inst x y=(bif b then x else y):=by cases b<;>simp
theorem zBI (n:Node) (ha:n.attrs.l.length≤2^40):pc prog 161 [zam n]=some (.bool (zpX n)):=by
 refine zKF n _ ?_
 unfold zKE zpX
 rw[ztK,zxZ n.attrs ha,short_list _ (by simp)]
 simp only[zaA (e:=D.bool),zaA (e:=zaF),Option.bind_some,ztL,zjF,List.all_cons,List.all_nil,Bool.and_true,bor,zyJ,zEW]
 rw[show decide ((16384:Int)<(n.data.l.length:Int))= !(decide (n.data.l.length≤16384))from zIb n.data.l 16384]
 simp only[zJM]
 simp only[znZ]
 generalize zlV n=b1
 generalize zrm n.attrs.l=b2
 generalize decide (n.public_.length≤1024)=b3
 generalize decide (n.system.length≤1024)=b4
 generalize decide (n.data.l.length≤16384)=b5
 generalize (n.public_==[])=b6
 generalize (n.system==[])=b7
 generalize (n.data.l.length==0)=b8
 generalize (n.kids.l.length==0)=b9
 generalize (n.attrs.l.length==0)=b10
 generalize (n.shadow==0)=b11
 generalize (n.parent==0)=b12
 generalize n.hTML=b13
 generalize (n.mode==1)=b14
 generalize (n.mode==2)=b15
 generalize (n.mode==0)=b16
 generalize n.manual=b17
 generalize (n.host==0)=b18
 generalize n.kind=k
 rw[show(if k=12 then b14||b15 else b16&& !b17&&b18)=(bif (k==12)then b14||b15 else b16&& !b17&&b18) by
  by_cases h:k=12
  ·subst h;rfl
  ·rw[if_neg h,show(k==12)=false by simpa using h];rfl]
 rw[show(bif (k==12)then some (b14||b15)else some (b16&& !b17&&b18))=some (bif (k==12)then b14||b15 else b16&& !b17&&b18) by cases(k==12)<;>rfl]
 generalize (bif (k==12)then b14||b15 else b16&& !b17&&b18)=z
 generalize zrl k=d1
 generalize znY k=d2
 generalize zxX k=d3
 generalize (k==1)=c1
 generalize (k==9)=c9
 generalize (k==10)=c10
 cases d1 with
 |false=>simp
 |true=>
 cases b1 with
 |false=>simp
 |true=>
 cases b2 with
 |false=>simp
 |true=>
 cases b3 with
 |false=>simp
 |true=>
 cases b4 with
 |false=>simp
 |true=>
 cases b5 with
 |false=>cases c10<;>simp
 |true=>
 simp only[zBH,Option.bind_some,zro]
 cases c10<;>cases b6<;>(try(simp;done))<;>cases b7<;>(try(simp;done))<;>simp[zro]<;>cases d2<;>cases b8<;>(try(simp;done))<;>cases d3<;>cases b9<;>(try(simp;done))<;>cases c1<;>cases b10<;>cases b11<;>(try(simp;done))<;>cases c9<;>cases b13<;>(try(simp;done))<;>cases b12<;>simp
end Go.Proofs.Ythodcjjgimeeoaa.P
