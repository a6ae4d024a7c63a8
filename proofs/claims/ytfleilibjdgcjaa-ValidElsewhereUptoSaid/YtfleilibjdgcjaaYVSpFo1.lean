/- Shaken copy of a longer text: what one law needs. Its conditions: none. -/
import Derived.Test.YtfleilibjdgcjaaYVDecO
import Derived.Test.YtfleilibjdgcjaaYVSpLoops
set_option linter.unusedSimpArgs false
set_option linter.unusedVariables false
set_option linter.unusedSimpArgs false
set_option linter.unusedVariables false
set_option linter.unusedSectionVars false
set_option linter.unnecessarySimpa false
namespace Go.Proofs.Ytfleilibjdgcjaa.V
open Go.AI
theorem w64 {n:Int} (h1: -9223372036854775808≤n) (h2:n≤9223372036854775807):IntKind.i64.wrap n=n:=by rw[IntKind.wrap_i64];omega
theorem bor {a b:Bool}:(bif a then true else b)=(a||b):=by cases a<;>rfl
theorem zkN {a b:Bool}:(bif a then b else false)=(a&&b):=by cases a<;>rfl
def nd0:Node:=⟨0,⟨[],[],[]⟩,[],[],⟨true,[]⟩,⟨true,[]⟩,0,⟨true,[]⟩,0,0,0,0,false,false⟩
def zcb (f:List Node) (h:Int):Option Node:=if 1≤h then f[(h-1).toNat]? else none
def nodeD (f:List Node) (h:Int):Node:=(zcb f h).getD nd0
theorem zcc {f:List Node} {h:Int} {n:Node} (e:zcb f h=some n):1≤h∧h≤f.length∧f[(h-1).toNat]? =some n:=by
 unfold zcb at e
 split at e
 ·rename_i h1
  rcases Nat.lt_or_ge (h-1).toNat f.length with h2|h2
  ·exact⟨h1,by omega,e⟩
  ·rw[List.getElem?_eq_none h2]at e;cases e
 ·cases e
theorem zkO {f:List Node} {h:Int} (e:zcb f h=none):h<1∨(f.length:Int)<h:=by
 unfold zcb at e
 split at e
 ·right
  rw[List.getElem?_eq_none_iff]at e;omega
 ·left;omega
theorem ziQ {f:List Node} {h:Int} (h1:1≤h) (h2:h≤f.length):∃n,zcb f h=some n:=by
 unfold zcb
 rw[if_pos h1]
 exact⟨_,List.getElem?_eq_getElem (by omega)⟩
theorem znM {f:List Node} {k:Nat} (h:k<f.length):zcb f ((k:Int)+1)=some f[k]:=by
 unfold zcb
 rw[if_pos (by omega),show((k:Int)+1-1).toNat=k by omega,List.getElem?_eq_getElem h]
theorem zhP {f:List Node} {h:Int} {n:Node} (e:zcb f h=some n):rd f (h-1)=some n:=by
 obtain⟨h1,h2,h3⟩:=zcc e
 unfold rd
 rw[if_pos (by omega)];exact h3
theorem zkP (f:List Node) (h:Int) (hf:f.length≤2^40):(if(bif (decide (h<1))then true else(decide ((f.length:Int)<h)))=true then some (nd0,false)else(rd f (IntKind.wrap .i64 (h-1))).bind fun y3=>some (y3,true))=some (nodeD f h,(zcb f h).isSome):=by
 unfold nodeD
 rcases e:zcb f h with _|n
 ·rcases zkO e with h1|h1
  ·simp[h1]
  ·rw[bor,if_pos (by simp[h1])];rfl
 ·obtain⟨h1,h2,_⟩:=zcc e
  rw[bor,if_neg (by simp;omega),w64 (by omega) (by omega),zhP e];rfl
theorem zcX (f:Forest) (h:Int) (hf:f.nodes.l.length≤2^40):pc prog 31 [zad f,.int .i64 h]=some (eT2 zah D.bool (nodeD f.nodes.l h,(zcb f.nodes.l h).isSome)):=by
 refine zMe f h _ ?_
 unfold P31
 exact zkP f.nodes.l h hf
theorem zlZ (f:Forest) (h:Int) (hf:f.nodes.l.length≤2^40):pc prog 219 [zad f,.int .i64 h]=some (eT2 zah D.bool (nodeD f.nodes.l h,(zcb f.nodes.l h).isSome)):=by
 refine zKT f h _ ?_
 unfold zKS
 exact zkP f.nodes.l h hf
theorem zqK (f:Forest) (h:Int) (hf:f.nodes.l.length≤2^40):pc prog 206 [zad f,.int .i64 h]=some (.int .u8 (nodeD f.nodes.l h).kind):=by
 refine zKB f h _ ?_
 unfold zKA
 rw[zcX f h hf,zas (e:=eT2 zah D.bool)];rfl
theorem zqL (f:Forest) (h:Int) (hf:f.nodes.l.length≤2^40):pc prog 221 [zad f,.int .i64 h]=some (.int .u8 (nodeD f.nodes.l h).kind):=by
 refine zKX f h _ ?_
 unfold zKW
 rw[zlZ f h hf,zas (e:=eT2 zah D.bool)];rfl
def zeO (n:Node):Int:=if n.kind==12 then n.host else n.parent
theorem zwZ (n:Node):pc prog 208 [zah n]=some (.int .i64 (zeO n)):=by
 refine zKF n _ ?_
 unfold zKE zeO
 split<;>rfl
theorem zxa (n:Node):pc prog 214 [zah n]=some (.int .i64 (zeO n)):=by
 refine zKJ n _ ?_
 unfold zKI zeO
 split<;>rfl
def zhQ (k:Int):Bool:=k==3||k==4||k==7||k==8
def zew (k:Int):Bool:=k==1||k==9||k==11||k==12
theorem zqM (k:Int):pc prog 115 [.int .u8 k]=some (.bool (zhQ k)):=by
 refine zJR k _ ?_
 unfold zJQ zhQ
 simp only[bor]
theorem zma (k:Int):pc prog 73 [.int .u8 k]=some (.bool (zew k)):=by
 refine zMh k _ ?_
 unfold P73 zew
 simp only[bor]
def zgZ (k:Int):Bool:=zhQ k||zew k||k==10
theorem zxb (k:Int):pc prog 202 [.int .u8 k]=some (.bool (zgZ k)):=by
 refine zKt k _ ?_
 unfold zKs zgZ
 simp only[zqM,zma,zas (e:=D.bool),Option.bind_some,bor]
 cases zhQ k<;>rfl
def znN (k:Int):forest_trait:=⟨zgZ k,zhQ k,zew k,k==1||zhQ k||k==10,k==1,k==7||k==10⟩
theorem zsT (k:Int):pc prog 215 [.int .u8 k]=some (zaF (znN k)):=by
 refine zKL k _ ?_
 unfold zKK znN zgZ zhQ zew
 by_cases h1:k=1
 ·subst h1;rfl
 by_cases h3:k=3
 ·subst h3;rfl
 by_cases h4:k=4
 ·subst h4;rfl
 by_cases h8:k=8
 ·subst h8;rfl
 by_cases h7:k=7
 ·subst h7;rfl
 by_cases h10:k=10
 ·subst h10;rfl
 by_cases h9:k=9
 ·subst h9;rfl
 by_cases h11:k=11
 ·subst h11;rfl
 by_cases h12:k=12
 ·subst h12;rfl
 simp[h1,h3,h4,h8,h7,h10,h9,h11,h12]
def zjO (l:List (List UInt8)):Bool:=l.all fun s=>decide (s.length≤1024)
theorem zxc (l:Sl (List UInt8)) (hl:l.l.length≤1000):pc prog 218 [.list l.n (l.l.map D.str)]=some (.bool (zjO l.l)):=by
 refine zKR l _ ?_
 unfold zKQ
 rw[zfw (l:=l.l) (fun s=>decide (1024<s.length)) (Sum.inr ()) (Sum.inl ()) ?_ ?_,Option.bind_some]
 ·have:zjO l.l= !(l.l.any fun s=>decide (1024<s.length)):=by
   unfold zjO
   rw[List.all_eq_not_any_not]
   congr 2
   funext s
   rw[←decide_not];simp
  rw[this]
  cases(l.l.any fun s=>decide (1024<s.length))<;>rfl
 ·intro k hk
  have hw:=zaJ (show k<2^62 by omega)
  simp only[zdu,zbA hk,Option.bind_some,hw]
  rw[if_pos (decide_eq_true (by omega)),show decide ((1024:Int)<(l.l[k].length:Int))=decide (1024<l.l[k].length) by rw[decide_eq_decide];omega]
  split<;>rfl
 ·simp only[zdu]
  rw[if_neg (by simp)]
theorem short_list (l:List (List UInt8)) (hl:l.length≤1000):pc prog 218 [.list false (l.map D.str)]=some (.bool (zjO l)):=zxc ⟨false,l⟩ hl
def zdI (n:Name):Bool:= !(n.local_==[])&&decide (n.space.length≤1024)&&decide (n.prefix_.length≤1024)&&decide (n.local_.length≤1024)&&(n.prefix_==[]|| !(n.space==[]))
theorem zpD (s:List UInt8) (k:Nat):decide ((s.length:Int)≤(k:Int))=decide (s.length≤k):=by rw[decide_eq_decide];omega
theorem znO (n:Name):pc prog 204 [zbN n]=some (.bool (zdI n)):=by
 refine zKx n _ ?_
 unfold zKw zdI
 have e:=zpD n.space 1024
 have e2:=zpD n.prefix_ 1024
 have e3:=zpD n.local_ 1024
 simp only[bor,zkN]
 rw[show decide ((n.space.length:Int)≤1024)=decide (n.space.length≤1024)from e,show decide ((n.prefix_.length:Int)≤1024)=decide (n.prefix_.length≤1024)from e2,show decide ((n.local_.length:Int)≤1024)=decide (n.local_.length≤1024)from e3]
 cases(!(n.local_==[])&&decide (n.space.length≤1024)&&decide (n.prefix_.length≤1024)&&decide (n.local_.length≤1024))<;>rfl
theorem znP (n:Name):pc prog 229 [zbN n]=some (.bool (zdI n)):=by
 refine zLb n _ ?_
 unfold zLa zdI
 rw[short_list _ (by simp),zas (e:=D.bool),Option.bind_some]
 simp only[bor,zjO,List.all_cons,List.all_nil,Bool.and_true]
 cases(n.local_==[])<;>cases decide (n.space.length≤1024)<;>cases decide (n.prefix_.length≤1024)<;>cases decide (n.local_.length≤1024)<;>rfl
theorem zDW (n:Name):pc prog 230 [zbN n]=some (zak ⟨n.space,n.local_⟩):=zLc n _ rfl
def zhR (n:Name) (a:Attr):Bool:=a.name.space==n.space&&a.name.local_==n.local_
def zha:List Attr→List Attr→Bool
 |_,[]=>true
 |pre,a::r=>zdI a.name&&decide (a.value.length≤4096)&& !(pre.any (zhR a.name))&&zha (pre++[a]) r
def zjP (l:List Attr):Bool:=decide (l.length≤64)&&zha [] l
theorem zAH (l:Sl Attr) (n:Name) (hl:l.l.length≤2^40):pc prog 211 [.list l.n (l.l.map zaK),zbN n]=some (.int .i64 (match l.l.findIdx? (zhR n)with|some k=>(k:Int)|none=> -1)):=by
 refine zKH l n _ ?_
 unfold zKG
 rw[zdy (l:=l.l) (zhR n) (fun k=>Sum.inr (k:Int)) (Sum.inl ()) ?_ ?_,Option.bind_some]
 ·rcases List.findIdx? (zhR n) l.l with _|k<;>rfl
 ·intro k hk
  have hw:=zaJ (show k<2^62 by omega)
  simp only[zds,zbA hk,Option.bind_some,hw,zkN]
  rw[if_pos (decide_eq_true (by omega))]
  show(if zhR n l.l[k]=true then _ else _)=_
  split<;>rfl
 ·simp only[zds]
  rw[if_neg (by simp)]
theorem zsU {step:Int→Option (Int⊕(Unit⊕Unit))} {l:List Attr} (h:∀k (hk:k<l.length),step (k:Int)=some (if(zdI l[k].name&&decide (l[k].value.length≤4096)&& !((l.take k).any (zhR l[k].name)))=true then .inl ((k+1:Nat):Int)else .inr (.inr ()))) (he:step (l.length:Int)=some (.inr (.inl ()))):zaU step 0=some (if zha [] l=true then .inl ()else .inr ()):=by
 have key:∀n k,k+n=l.length→zaU step (k:Int)=some (if zha (l.take k) (l.drop k)=true then .inl ()else .inr ()):=by
  intro n
  induction n with
  |zero=>
   intro k hk
   obtain rfl:k=l.length:=by omega
   rw[List.drop_length];exact zaH he
  |succ n ih=>
   intro k hk
   have hl:k<l.length:=by omega
   have h1:=h k hl
   rw[List.drop_eq_getElem_cons hl]
   unfold zha
   by_cases hp:(zdI l[k].name&&decide (l[k].value.length≤4096)&& !((l.take k).any (zhR l[k].name)))=true
   ·rw[if_pos hp]at h1
    rw[zaP h1,ih (k+1) (by omega),hp,Bool.true_and,List.take_succ_eq_append_getElem hl]
   ·rw[if_neg hp]at h1
    rw[zaH h1]
    simp only[Bool.not_eq_true]at hp
    rw[hp];simp
 exact key l.length 0 (by omega)
theorem zxd (l:Sl Attr) (hl:l.l.length≤2^40):pc prog 203 [.list l.n (l.l.map zaK)]=some (.bool (zjP l.l)):=by
 refine zKv l _ ?_
 unfold zKu zjP
 by_cases h64:64<l.l.length
 ·rw[if_pos (decide_eq_true (by omega)),decide_eq_false (by omega)];rfl
 ·rw[if_neg (by simp;omega),decide_eq_true (by omega)]
  rw[zsU (l:=l.l) ?_ ?_,Option.bind_some]
  ·cases zha [] l.l<;>rfl
  ·intro k hk
   have hw:=zaJ (show k<2^62 by omega)
   have hf:=zAH ⟨l.n,l.l.take k⟩ l.l[k].name (by simp only[List.length_take];omega)
   simp only at hf
   have hc:cut l.l 0 (k:Int)=some (l.l.take k):=by
    unfold cut;rw[if_pos (by omega)];simp
   simp only[zdp,zbA hk,Option.bind_some,hw,znO,zas (e:=D.bool),hc,hf,zas (e:=D.int .i64),bor]
   rw[if_pos (decide_eq_true (by omega)),show decide ((4096:Int)<(l.l[k].value.length:Int))= !(decide (l.l[k].value.length≤4096)) by rw[←decide_not,decide_eq_decide];omega]
   have hfi:decide (0≤(match(l.l.take k).findIdx? (zhR l.l[k].name)with|some j=>(j:Int)|none=> -1))=(l.l.take k).any (zhR l.l[k].name):=by
    rcases hx:(l.l.take k).findIdx? (zhR l.l[k].name)with _|j
    ·rw[List.findIdx?_eq_none_iff]at hx
     have:(l.l.take k).any (zhR l.l[k].name)=false:=by rw[List.any_eq_false];simpa using hx
     rw[this];rfl
    ·rw[List.findIdx?_eq_some_iff_getElem]at hx
     obtain⟨g1,g2,-⟩:=hx
     show decide ((0:Int)≤(j:Int))=_
     rw[decide_eq_true (by omega)]
     exact(List.any_eq_true.2 ⟨_,List.getElem_mem g1,g2⟩).symm
   rw[hfi]
   cases zdI l.l[k].name<;>cases decide (l.l[k].value.length≤4096)<;>cases(l.l.take k).any (zhR l.l[k].name)<;>rfl
  ·simp only[zdp]
   rw[if_neg (by simp)]
end Go.Proofs.Ytfleilibjdgcjaa.V
