/- Shaken copy of a longer text: what one law needs. Its conditions: none. -/
import Derived.Test.YthodcjjgimeeoaaGreatZPDecO
import Derived.Test.YthodcjjgimeeoaaGreatZPSpLoops
set_option linter.unusedSimpArgs false
set_option linter.unusedVariables false
set_option linter.unusedSimpArgs false
set_option linter.unusedVariables false
set_option linter.unusedSectionVars false
set_option linter.unnecessarySimpa false
namespace Go.Proofs.YthodcjjgimeeoaaGreat.P
open Go.AI
theorem w64 {n:Int} (h1: -9223372036854775808≤n) (h2:n≤9223372036854775807):IntKind.i64.wrap n=n:=by rw[IntKind.wrap_i64];omega
theorem bor {a b:Bool}:(bif a then true else b)=(a||b):=by cases a<;>rfl
theorem zpU {a b:Bool}:(bif a then b else false)=(a&&b):=by cases a<;>rfl
def nd0:Node:=⟨0,⟨[],[],[]⟩,[],[],⟨true,[]⟩,⟨true,[]⟩,0,⟨true,[]⟩,0,0,0,0,false,false⟩
def zcj (f:List Node) (h:Int):Option Node:=if 1≤h then f[(h-1).toNat]? else none
def nodeD (f:List Node) (h:Int):Node:=(zcj f h).getD nd0
theorem zcx {f:List Node} {h:Int} {n:Node} (e:zcj f h=some n):1≤h∧h≤f.length∧f[(h-1).toNat]? =some n:=by
 unfold zcj at e
 split at e
 ·rename_i h1
  rcases Nat.lt_or_ge (h-1).toNat f.length with h2|h2
  ·exact⟨h1,by omega,e⟩
  ·rw[List.getElem?_eq_none h2]at e;cases e
 ·cases e
theorem zlU {f:List Node} {h:Int} (e:zcj f h=none):h<1∨(f.length:Int)<h:=by
 unfold zcj at e
 split at e
 ·right
  rw[List.getElem?_eq_none_iff]at e;omega
 ·left;omega
theorem zjS {f:List Node} {h:Int} (h1:1≤h) (h2:h≤f.length):∃n,zcj f h=some n:=by
 unfold zcj
 rw[if_pos h1]
 exact⟨_,List.getElem?_eq_getElem (by omega)⟩
theorem zpo {f:List Node} {k:Nat} (h:k<f.length):zcj f ((k:Int)+1)=some f[k]:=by
 unfold zcj
 rw[if_pos (by omega),show((k:Int)+1-1).toNat=k by omega,List.getElem?_eq_getElem h]
theorem ziG {f:List Node} {h:Int} {n:Node} (e:zcj f h=some n):rd f (h-1)=some n:=by
 obtain⟨h1,h2,h3⟩:=zcx e
 unfold rd
 rw[if_pos (by omega)];exact h3
theorem zlV (f:List Node) (h:Int) (hf:f.length≤2^40):(if(bif (decide (h<1))then true else(decide ((f.length:Int)<h)))=true then some (nd0,false)else(rd f (IntKind.wrap .i64 (h-1))).bind fun y3=>some (y3,true))=some (nodeD f h,(zcj f h).isSome):=by
 unfold nodeD
 rcases e:zcj f h with _|n
 ·rcases zlU e with h1|h1
  ·simp[h1]
  ·rw[bor,if_pos (by simp[h1])];rfl
 ·obtain⟨h1,h2,_⟩:=zcx e
  rw[bor,if_neg (by simp;omega),w64 (by omega) (by omega),ziG e];rfl
theorem zhK (f:Forest) (h:Int) (hf:f.nodes.l.length≤2^40):pc prog 81 [zaa f,.int .i64 h]=some (eT2 zao D.bool (nodeD f.nodes.l h,(zcj f.nodes.l h).isSome)):=by
 refine zQA f h _ ?_
 unfold P81
 exact zlV f.nodes.l h hf
theorem znh (f:Forest) (h:Int) (hf:f.nodes.l.length≤2^40):pc prog 131 [zaa f,.int .i64 h]=some (eT2 zao D.bool (nodeD f.nodes.l h,(zcj f.nodes.l h).isSome)):=by
 refine zOW f h _ ?_
 unfold zOV
 exact zlV f.nodes.l h hf
theorem zsP (f:Forest) (h:Int) (hf:f.nodes.l.length≤2^40):pc prog 142 [zaa f,.int .i64 h]=some (.int .u8 (nodeD f.nodes.l h).kind):=by
 refine zPq f h _ ?_
 unfold zPp
 rw[zhK f h hf,zap (e:=eT2 zao D.bool)];rfl
theorem zsQ (f:Forest) (h:Int) (hf:f.nodes.l.length≤2^40):pc prog 133 [zaa f,.int .i64 h]=some (.int .u8 (nodeD f.nodes.l h).kind):=by
 refine zPa f h _ ?_
 unfold zOZ
 rw[znh f h hf,zap (e:=eT2 zao D.bool)];rfl
def zeJ (n:Node):Int:=if n.kind==12 then n.host else n.parent
theorem zzP (n:Node):pc prog 144 [zao n]=some (.int .i64 (zeJ n)):=by
 refine zPu n _ ?_
 unfold zPt zeJ
 split<;>rfl
theorem zzQ (n:Node):pc prog 126 [zao n]=some (.int .i64 (zeJ n)):=by
 refine zOM n _ ?_
 unfold zOL zeJ
 split<;>rfl
def ziH (k:Int):Bool:=k==3||k==4||k==7||k==8
def zni (k:Int):Bool:=k==1||k==9||k==11||k==12
theorem zsR (k:Int):pc prog 139 [.int .u8 k]=some (.bool (ziH k)):=by
 refine zPk k _ ?_
 unfold zPj ziH
 simp only[bor]
theorem zsS (k:Int):pc prog 140 [.int .u8 k]=some (.bool (zni k)):=by
 refine zPm k _ ?_
 unfold zPl zni
 simp only[bor]
def zhL (k:Int):Bool:=ziH k||zni k||k==10
theorem zzR (k:Int):pc prog 136 [.int .u8 k]=some (.bool (zhL k)):=by
 refine zPe k _ ?_
 unfold zPd zhL
 simp only[zsR,zsS,zap (e:=D.bool),Option.bind_some,bor]
 cases ziH k<;>rfl
def zpp (k:Int):forest_trait:=⟨zhL k,ziH k,zni k,k==1||ziH k||k==10,k==1,k==7||k==10⟩
theorem zvr (k:Int):pc prog 127 [.int .u8 k]=some (zaH (zpp k)):=by
 refine zOO k _ ?_
 unfold zON zpp zhL ziH zni
 by_cases h1:k=1
 ·subst h1;rfl
 by_cases h3:k=3
 ·subst h3;rfl
 by_cases h4:k=4
 ·subst h4;rfl
 by_cases h8:k=8
 ·subst h8;rfl
 by_cases h7:k=7
 ·subst h7;rfl
 by_cases h10:k=10
 ·subst h10;rfl
 by_cases h9:k=9
 ·subst h9;rfl
 by_cases h11:k=11
 ·subst h11;rfl
 by_cases h12:k=12
 ·subst h12;rfl
 simp[h1,h3,h4,h8,h7,h10,h9,h11,h12]
def zkR (l:List (List UInt8)):Bool:=l.all fun s=>decide (s.length≤1024)
theorem zzS (l:Sl (List UInt8)) (hl:l.l.length≤1000):pc prog 130 [.list l.n (l.l.map D.str)]=some (.bool (zkR l.l)):=by
 refine zOU l _ ?_
 unfold zOT
 rw[zgo (l:=l.l) (fun s=>decide (1024<s.length)) (Sum.inr ()) (Sum.inl ()) ?_ ?_,Option.bind_some]
 ·have:zkR l.l= !(l.l.any fun s=>decide (1024<s.length)):=by
   unfold zkR
   rw[List.all_eq_not_any_not]
   congr 2
   funext s
   rw[←decide_not];simp
  rw[this]
  cases(l.l.any fun s=>decide (1024<s.length))<;>rfl
 ·intro k hk
  have hw:=zaK (show k<2^62 by omega)
  simp only[zdN,zbd hk,Option.bind_some,hw]
  rw[if_pos (decide_eq_true (by omega)),show decide ((1024:Int)<(l.l[k].length:Int))=decide (1024<l.l[k].length) by rw[decide_eq_decide];omega]
  split<;>rfl
 ·simp only[zdN]
  rw[if_neg (by simp)]
theorem short_list (l:List (List UInt8)) (hl:l.length≤1000):pc prog 130 [.list false (l.map D.str)]=some (.bool (zkR l)):=zzS ⟨false,l⟩ hl
def zel (n:Name):Bool:= !(n.local_==[])&&decide (n.space.length≤1024)&&decide (n.prefix_.length≤1024)&&decide (n.local_.length≤1024)&&(n.prefix_==[]|| !(n.space==[]))
theorem zrv (s:List UInt8) (k:Nat):decide ((s.length:Int)≤(k:Int))=decide (s.length≤k):=by rw[decide_eq_decide];omega
theorem zpq (n:Name):pc prog 138 [zcf n]=some (.bool (zel n)):=by
 refine zPi n _ ?_
 unfold zPh zel
 have e:=zrv n.space 1024
 have e2:=zrv n.prefix_ 1024
 have e3:=zrv n.local_ 1024
 simp only[bor,zpU]
 rw[show decide ((n.space.length:Int)≤1024)=decide (n.space.length≤1024)from e,show decide ((n.prefix_.length:Int)≤1024)=decide (n.prefix_.length≤1024)from e2,show decide ((n.local_.length:Int)≤1024)=decide (n.local_.length≤1024)from e3]
 cases(!(n.local_==[])&&decide (n.space.length≤1024)&&decide (n.prefix_.length≤1024)&&decide (n.local_.length≤1024))<;>rfl
theorem zpr (n:Name):pc prog 155 [zcf n]=some (.bool (zel n)):=by
 refine zPw n _ ?_
 unfold zPv zel
 rw[short_list _ (by simp),zap (e:=D.bool),Option.bind_some]
 simp only[bor,zkR,List.all_cons,List.all_nil,Bool.and_true]
 cases(n.local_==[])<;>cases decide (n.space.length≤1024)<;>cases decide (n.prefix_.length≤1024)<;>cases decide (n.local_.length≤1024)<;>rfl
theorem zHK (n:Name):pc prog 156 [zcf n]=some (zaq ⟨n.space,n.local_⟩):=zPx n _ rfl
def zfE (n:Name) (a:Attr):Bool:=a.name.space==n.space&&a.name.local_==n.local_
def zhM:List Attr→List Attr→Bool
 |_,[]=>true
 |pre,a::r=>zel a.name&&decide (a.value.length≤4096)&& !(pre.any (zfE a.name))&&zhM (pre++[a]) r
def zkS (l:List Attr):Bool:=decide (l.length≤64)&&zhM [] l
theorem zsT (l:Sl Attr) (n:Name) (hl:l.l.length≤2^40):pc prog 146 [.list l.n (l.l.map zbg),zcf n]=some (.int .i64 (match l.l.findIdx? (zfE n)with|some k=>(k:Int)|none=> -1)):=by
 refine zPB l n _ ?_
 unfold zPA
 rw[zdX (l:=l.l) (zfE n) (fun k=>Sum.inr (k:Int)) (Sum.inl ()) ?_ ?_,Option.bind_some]
 ·rcases List.findIdx? (zfE n) l.l with _|k<;>rfl
 ·intro k hk
  have hw:=zaK (show k<2^62 by omega)
  simp only[zdU,zbd hk,Option.bind_some,hw,zpU]
  rw[if_pos (decide_eq_true (by omega))]
  show(if zfE n l.l[k]=true then _ else _)=_
  split<;>rfl
 ·simp only[zdU]
  rw[if_neg (by simp)]
theorem zvs {step:Int→Option (Int⊕(Unit⊕Unit))} {l:List Attr} (h:∀k (hk:k<l.length),step (k:Int)=some (if(zel l[k].name&&decide (l[k].value.length≤4096)&& !((l.take k).any (zfE l[k].name)))=true then .inl ((k+1:Nat):Int)else .inr (.inr ()))) (he:step (l.length:Int)=some (.inr (.inl ()))):zaL step 0=some (if zhM [] l=true then .inl ()else .inr ()):=by
 have key:∀n k,k+n=l.length→zaL step (k:Int)=some (if zhM (l.take k) (l.drop k)=true then .inl ()else .inr ()):=by
  intro n
  induction n with
  |zero=>
   intro k hk
   obtain rfl:k=l.length:=by omega
   rw[List.drop_length];exact zau he
  |succ n ih=>
   intro k hk
   have hl:k<l.length:=by omega
   have h1:=h k hl
   rw[List.drop_eq_getElem_cons hl]
   unfold zhM
   by_cases hp:(zel l[k].name&&decide (l[k].value.length≤4096)&& !((l.take k).any (zfE l[k].name)))=true
   ·rw[if_pos hp]at h1
    rw[zaC h1,ih (k+1) (by omega),hp,Bool.true_and,List.take_succ_eq_append_getElem hl]
   ·rw[if_neg hp]at h1
    rw[zau h1]
    simp only[Bool.not_eq_true]at hp
    rw[hp];simp
 exact key l.length 0 (by omega)
theorem zzT (l:Sl Attr) (hl:l.l.length≤2^40):pc prog 137 [.list l.n (l.l.map zbg)]=some (.bool (zkS l.l)):=by
 refine zPg l _ ?_
 unfold zPf zkS
 by_cases h64:64<l.l.length
 ·rw[if_pos (decide_eq_true (by omega)),decide_eq_false (by omega)];rfl
 ·rw[if_neg (by simp;omega),decide_eq_true (by omega)]
  rw[zvs (l:=l.l) ?_ ?_,Option.bind_some]
  ·cases zhM [] l.l<;>rfl
  ·intro k hk
   have hw:=zaK (show k<2^62 by omega)
   have hf:=zsT ⟨l.n,l.l.take k⟩ l.l[k].name (by simp only[List.length_take];omega)
   simp only at hf
   have hc:cut l.l 0 (k:Int)=some (l.l.take k):=by
    unfold cut;rw[if_pos (by omega)];simp
   simp only[zdQ,zbd hk,Option.bind_some,hw,zpq,zap (e:=D.bool),hc,hf,zap (e:=D.int .i64),bor]
   rw[if_pos (decide_eq_true (by omega)),show decide ((4096:Int)<(l.l[k].value.length:Int))= !(decide (l.l[k].value.length≤4096)) by rw[←decide_not,decide_eq_decide];omega]
   have hfi:decide (0≤(match(l.l.take k).findIdx? (zfE l.l[k].name)with|some j=>(j:Int)|none=> -1))=(l.l.take k).any (zfE l.l[k].name):=by
    rcases hx:(l.l.take k).findIdx? (zfE l.l[k].name)with _|j
    ·rw[List.findIdx?_eq_none_iff]at hx
     have:(l.l.take k).any (zfE l.l[k].name)=false:=by rw[List.any_eq_false];simpa using hx
     rw[this];rfl
    ·rw[List.findIdx?_eq_some_iff_getElem]at hx
     obtain⟨g1,g2,-⟩:=hx
     show decide ((0:Int)≤(j:Int))=_
     rw[decide_eq_true (by omega)]
     exact(List.any_eq_true.2 ⟨_,List.getElem_mem g1,g2⟩).symm
   rw[hfi]
   cases zel l.l[k].name<;>cases decide (l.l[k].value.length≤4096)<;>cases(l.l.take k).any (zfE l.l[k].name)<;>rfl
  ·simp only[zdQ]
   rw[if_neg (by simp)]
end Go.Proofs.YthodcjjgimeeoaaGreat.P
