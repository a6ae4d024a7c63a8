/- Shaken copy of a longer text: what one law needs. Its conditions: none. -/
import Derived.Test.YthodcjjgimeeoaaGreatZPSpFo1
set_option linter.unusedSimpArgs false
set_option linter.unusedVariables false
set_option linter.unusedSimpArgs false
set_option linter.unusedVariables false
set_option linter.unusedSectionVars false
set_option linter.unnecessarySimpa false
namespace Go.Proofs.YthodcjjgimeeoaaGreat.P
open Go.AI
section
variable {K:Type} [DecidableEq K] {α:Type}
theorem zps (k:K):∀(l:List (K×α)) (t u:Nat),(zbB k l t).map Prod.fst=(zbB k l u).map Prod.fst
 |[],_,_=>rfl
 |(k',a)::l,t,u=>by
  unfold zbB
  split
  ·rfl
  ·exact zps k l _ _
theorem zsU (k:K) (l:List (K×α)) (z:α):zhW k l z=((zbB k l 0).map Prod.fst).getD z:=by
 unfold zhW
 rcases zbB k l 0 with _|⟨a,i⟩<;>rfl
theorem zEa (k:K) (z:α):zhW k [] z=z:=rfl
theorem zfF (k k':K) (a z:α) (l:List (K×α)):zhW k ((k',a)::l) z=if k=k' then a else zhW k l z:=by
 rw[zsU,zsU]
 show(Option.map Prod.fst (if k=k' then some (a,0)else zbB k l (0+1))).getD z=_
 by_cases h:k=k'
 ·rw[if_pos h,if_pos h];rfl
 ·rw[if_neg h,if_neg h,zps k l _ 0]
theorem znj (k k':K) (a z:α):∀l:List (K×α),zhW k (zfy k' a l) z=if k=k' then a else zhW k l z
 |[]=>by unfold zfy;rw[zfF]
 |(k2,b)::l=>by
  unfold zfy
  by_cases h:k'=k2
  ·subst h
   rw[if_pos rfl,zfF,zfF]
   split<;>rfl
  ·rw[if_neg h,zfF,zfF,znj k k' a z l]
   by_cases h2:k=k2
   ·subst h2;rw[if_pos rfl,if_pos rfl,if_neg (fun e=>h e.symm)]
   ·rw[if_neg h2,if_neg h2]
end
def zpt {α K:Type} [DecidableEq K] (key:α→K) (p:α→Bool):List α→List α→Bool
 |_,[]=>true
 |pre,a::r=>p a&& !(pre.any fun b=>decide (key b=key a))&&zpt key p (pre++[a]) r
theorem zpu {α K:Type} [DecidableEq K] {step:List (K×Int)×Int→Option ((List (K×Int)×Int)⊕(Unit⊕Unit))} {l:List α} (key:α→K) (p:α→Bool)
 (h:∀k (hk:k<l.length) m,step (m,(k:Int))=some (if(p l[k]&& !(decide (0<zhW (key l[k]) m 0)))=true then .inl (zfy (key l[k]) (IntKind.i64.wrap (zhW (key l[k]) m 0+1)) m,((k+1:Nat):Int))else .inr (.inr ())))
 (he:∀m,step (m,(l.length:Int))=some (.inr (.inl ()))):zaL step ([],0)=some (if zpt key p [] l=true then .inl ()else .inr ()):=by
 have key':∀n k,k+n=l.length→∀m,(∀q,zhW q m 0=if(l.take k).any (fun b=>decide (key b=q))=true then 1 else 0)→zaL step (m,(k:Int))=some (if zpt key p (l.take k) (l.drop k)=true then .inl ()else .inr ()):=by
  intro n
  induction n with
  |zero=>
   intro k hk m _
   obtain rfl:k=l.length:=by omega
   rw[List.drop_length];exact zau (he m)
  |succ n ih=>
   intro k hk m hm
   have hl:k<l.length:=by omega
   have h1:=h k hl m
   rw[List.drop_eq_getElem_cons hl]
   unfold zpt
   have hz:=hm (key l[k])
   have hd:decide (0<zhW (key l[k]) m 0)=(l.take k).any fun b=>decide (key b=key l[k]):=by
    rw[hz]
    cases(l.take k).any fun b=>decide (key b=key l[k])<;>rfl
   rw[hd]at h1
   by_cases hp:(p l[k]&& !((l.take k).any fun b=>decide (key b=key l[k])))=true
   ·rw[if_pos hp]at h1
    rw[hp,Bool.true_and,←List.take_succ_eq_append_getElem hl]
    rw[zaC h1,ih (k+1) (by omega)]
    intro q
    rw[znj,List.take_succ_eq_append_getElem hl,List.any_append,hm q]
    simp only[List.any_cons,List.any_nil,Bool.or_false]
    by_cases hq:q=key l[k]
    ·subst hq
     rw[if_pos rfl]
     simp only[Bool.and_eq_true,Bool.not_eq_true']at hp
     rw[hz,hp.2]
     simp only[Bool.false_eq_true,if_false,decide_true,Bool.or_true,if_true]
     rw[w64]<;>omega
    ·rw[if_neg hq,show decide (key l[k]=q)=false by rw[decide_eq_false_iff_not];exact fun e=>hq e.symm,Bool.or_false]
   ·rw[if_neg hp]at h1
    rw[zau h1]
    simp only[Bool.not_eq_true]at hp
    rw[hp];simp
 exact key' l.length 0 (by omega) [] (fun q=>by simp[zEa])
theorem zlW:∀(pre l:List Attr),zhM pre l=zpt (fun a:Attr=>(⟨a.name.space,a.name.local_⟩:forest_key)) (fun a=>zel a.name&&decide (a.value.length≤4096)) pre l
 |_,[]=>rfl
 |pre,a::r=>by
  unfold zhM zpt
  rw[zlW (pre++[a]) r]
  congr 3
  congr 1
  funext b
  unfold zfE
  rw[Bool.eq_iff_iff]
  simp
theorem zzU (l:Sl Attr) (hl:l.l.length≤2^40):pc prog 129 [.list l.n (l.l.map zbg)]=some (.bool (zkS l.l)):=by
 refine zOS l _ ?_
 unfold zOR zkS
 by_cases h64:64<l.l.length
 ·rw[if_pos (decide_eq_true (by omega)),decide_eq_false (by omega)];rfl
 ·rw[if_neg (by simp;omega),decide_eq_true (by omega)]
  rw[zpu (l:=l.l) (fun a:Attr=>(⟨a.name.space,a.name.local_⟩:forest_key)) (fun a=>zel a.name&&decide (a.value.length≤4096)) ?_ ?_,Option.bind_some,←zlW]
  ·cases zhM [] l.l<;>rfl
  ·intro k hk m
   have hw:=zaK (show k<2^62 by omega)
   simp only[zdM,zbd hk,Option.bind_some,hw,zpr,zHK,zap (e:=D.bool),zap (e:=zaq),bor]
   rw[if_pos (decide_eq_true (by omega)),show decide ((4096:Int)<(l.l[k].value.length:Int))= !(decide (l.l[k].value.length≤4096)) by rw[←decide_not,decide_eq_decide];omega]
   by_cases hg:0<zhW (⟨l.l[k].name.space,l.l[k].name.local_⟩:forest_key) m 0
   ·simp only[hg,decide_true]
    cases zel l.l[k].name<;>cases decide (l.l[k].value.length≤4096)<;>rfl
   ·simp only[hg,decide_false]
    cases zel l.l[k].name<;>cases decide (l.l[k].value.length≤4096)<;>rfl
  ·intro m
   simp only[zdM]
   rw[if_neg (by simp)]
def zkT (n:Node):Bool:=
 if n.kind=1 then zel n.name else if n.kind=7∨n.kind=10 then !(n.name.local_==[])&&decide (n.name.local_.length≤1024)&&decide (n.name=⟨[],[],n.name.local_⟩)else decide (n.name=⟨[],[],[]⟩)
theorem zvt (n:Node):pc prog 128 [zao n,zaH (zpp n.kind)]=some (.bool (zkT n)):=by
 refine zOQ n _ _ ?_
 unfold zOP zkT zpp
 rw[zpr,short_list _ (by simp)]
 simp only[zap (e:=D.bool),Option.bind_some,zkR,List.all_cons,List.all_nil,Bool.and_true]
 by_cases h1:n.kind=1
 ·simp[h1]
 by_cases h2:n.kind=7
 ·simp only[h2]
  cases(n.name.local_==[])<;>cases decide (n.name.local_.length≤1024)<;>rfl
 by_cases h3:n.kind=10
 ·simp only[h3]
  cases(n.name.local_==[])<;>cases decide (n.name.local_.length≤1024)<;>rfl
 simp[h1,h2,h3]
def zlt (n:Node):Bool:=
 zhL n.kind&&zkT n&&zkS n.attrs.l&&decide (n.public_.length≤1024)&&decide (n.system.length≤1024)&&(n.kind==10||(n.public_==[]&&n.system==[]))&&decide (n.data.l.length≤16384)&&
 (ziH n.kind||n.data.l.length==0)&&(zni n.kind||n.kids.l.length==0)&&(n.kind==1||(n.attrs.l.length==0&&n.shadow==0))&&(n.kind==9|| !n.hTML)&&((n.kind==1||ziH n.kind||n.kind==10)||n.parent==0)&&
 (if n.kind=12 then n.mode==1||n.mode==2 else n.mode==0&& !n.manual&&n.host==0)
theorem zzV {α:Type} (l:List α):decide ((0:Int)<(l.length:Int))= !(l.length==0):=by
 cases l<;>simp<;>omega
theorem zpv {α:Type} (l:List α) (k:Nat):decide ((k:Int)<(l.length:Int))= !(decide (l.length≤k)):=by rw[←decide_not,decide_eq_decide];omega
theorem zsV {α β:Type} {c:Bool} {x y:Option α} {f:α→Option β}:(bif c then x else y).bind f=bif c then x.bind f else y.bind f:=by cases c<;>rfl
theorem znk {α:Type} {c:Bool} {x y:α}:(bif c then some x else some y)=some (bif c then x else y):=by cases c<;>rfl
theorem zFk {α:Type} {b:Bool} {inst:Decidable (b=true)} {x y:α}: @ite α (b=true) inst x y=(bif b then x else y):=by cases b<;>simp
theorem zEb (n:Node) (ha:n.attrs.l.length≤2^40):pc prog 105 [zao n]=some (.bool (zlt n)):=by
 refine zOA n _ ?_
 unfold zOz zlt
 rw[zvr,zzU n.attrs ha,short_list _ (by simp)]
 simp only[zap (e:=D.bool),zap (e:=zaH),Option.bind_some,zvt,zkR,List.all_cons,List.all_nil,Bool.and_true,bor,zpU,zzV]
 rw[show decide ((16384:Int)<(n.data.l.length:Int))= !(decide (n.data.l.length≤16384))from zpv n.data.l 16384]
 simp only[zFk]
 simp only[zpp]
 generalize zkT n=b1
 generalize zkS n.attrs.l=b2
 generalize decide (n.public_.length≤1024)=b3
 generalize decide (n.system.length≤1024)=b4
 generalize decide (n.data.l.length≤16384)=b5
 generalize (n.public_==[])=b6
 generalize (n.system==[])=b7
 generalize (n.data.l.length==0)=b8
 generalize (n.kids.l.length==0)=b9
 generalize (n.attrs.l.length==0)=b10
 generalize (n.shadow==0)=b11
 generalize (n.parent==0)=b12
 generalize n.hTML=b13
 generalize (n.mode==1)=b14
 generalize (n.mode==2)=b15
 generalize (n.mode==0)=b16
 generalize n.manual=b17
 generalize (n.host==0)=b18
 generalize n.kind=k
 rw[show(if k=12 then b14||b15 else b16&& !b17&&b18)=(bif (k==12)then b14||b15 else b16&& !b17&&b18) by
  by_cases h:k=12
  ·subst h;rfl
  ·rw[if_neg h,show(k==12)=false by simpa using h];rfl]
 rw[show(bif (k==12)then some (b14||b15)else some (b16&& !b17&&b18))=some (bif (k==12)then b14||b15 else b16&& !b17&&b18) by cases(k==12)<;>rfl]
 generalize (bif (k==12)then b14||b15 else b16&& !b17&&b18)=z
 generalize zhL k=d1
 generalize ziH k=d2
 generalize zni k=d3
 generalize (k==1)=c1
 generalize (k==9)=c9
 generalize (k==10)=c10
 cases d1 with
 |false=>simp
 |true=>
 cases b1 with
 |false=>simp
 |true=>
 cases b2 with
 |false=>simp
 |true=>
 cases b3 with
 |false=>simp
 |true=>
 cases b4 with
 |false=>simp
 |true=>
 cases b5 with
 |false=>cases c10<;>simp
 |true=>
 simp only[zsV,Option.bind_some,znk]
 cases c10<;>cases b6<;>(try(simp;done))<;>cases b7<;>(try(simp;done))<;>simp[znk]<;>cases d2<;>cases b8<;>(try(simp;done))<;>cases d3<;>cases b9<;>(try(simp;done))<;>cases c1<;>cases b10<;>cases b11<;>(try(simp;done))<;>cases c9<;>cases b13<;>(try(simp;done))<;>cases b12<;>simp
end Go.Proofs.YthodcjjgimeeoaaGreat.P
