/- Shaken copy of a longer text: what one law needs. Its conditions: none. -/
import Derived.Test.YthodcjjgimeeoaaZFDecO
import Derived.Test.YthodcjjgimeeoaaZFSpLoops
set_option linter.unusedSimpArgs false
set_option linter.unusedVariables false
set_option linter.unusedSimpArgs false
set_option linter.unusedVariables false
set_option linter.unusedSectionVars false
set_option linter.unnecessarySimpa false
namespace Go.Proofs.Ythodcjjgimeeoaa.F
open Go.AI
theorem w64 {n:Int} (h1: -9223372036854775808≤n) (h2:n≤9223372036854775807):IntKind.i64.wrap n=n:=by rw[IntKind.wrap_i64];omega
theorem bor {a b:Bool}:(bif a then true else b)=(a||b):=by cases a<;>rfl
theorem zps {a b:Bool}:(bif a then b else false)=(a&&b):=by cases a<;>rfl
def nd0:Node:=⟨0,⟨[],[],[]⟩,[],[],⟨true,[]⟩,⟨true,[]⟩,0,⟨true,[]⟩,0,0,0,0,false,false⟩
def zbR (f:List Node) (h:Int):Option Node:=if 1≤h then f[(h-1).toNat]? else none
def nodeD (f:List Node) (h:Int):Node:=(zbR f h).getD nd0
theorem zcd {f:List Node} {h:Int} {n:Node} (e:zbR f h=some n):1≤h∧h≤f.length∧f[(h-1).toNat]? =some n:=by
 unfold zbR at e
 split at e
 ·rename_i h1
  rcases Nat.lt_or_ge (h-1).toNat f.length with h2|h2
  ·exact⟨h1,by omega,e⟩
  ·rw[List.getElem?_eq_none h2]at e;cases e
 ·cases e
theorem zjP {f:List Node} {h:Int} (e:zbR f h=none):h<1∨(f.length:Int)<h:=by
 unfold zbR at e
 split at e
 ·right
  rw[List.getElem?_eq_none_iff]at e;omega
 ·left;omega
theorem zgl {f:List Node} {h:Int} (h1:1≤h) (h2:h≤f.length):∃n,zbR f h=some n:=by
 unfold zbR
 rw[if_pos h1]
 exact⟨_,List.getElem?_eq_getElem (by omega)⟩
theorem zmA {f:List Node} {k:Nat} (h:k<f.length):zbR f ((k:Int)+1)=some f[k]:=by
 unfold zbR
 rw[if_pos (by omega),show((k:Int)+1-1).toNat=k by omega,List.getElem?_eq_getElem h]
theorem zfB {f:List Node} {h:Int} {n:Node} (e:zbR f h=some n):rd f (h-1)=some n:=by
 obtain⟨h1,h2,h3⟩:=zcd e
 unfold rd
 rw[if_pos (by omega)];exact h3
theorem zjQ (f:List Node) (h:Int) (hf:f.length≤2^40):(if(bif (decide (h<1))then true else(decide ((f.length:Int)<h)))=true then some (nd0,false)else(rd f (IntKind.wrap .i64 (h-1))).bind fun y3=>some (y3,true))=some (nodeD f h,(zbR f h).isSome):=by
 unfold nodeD
 rcases e:zbR f h with _|n
 ·rcases zjP e with h1|h1
  ·simp[h1]
  ·rw[bor,if_pos (by simp[h1])];rfl
 ·obtain⟨h1,h2,_⟩:=zcd e
  rw[bor,if_neg (by simp;omega),w64 (by omega) (by omega),zfB e];rfl
theorem zeQ (f:Forest) (h:Int) (hf:f.nodes.l.length≤2^40):pc prog 43 [zai f,.int .i64 h]=some (eT2 zah D.bool (nodeD f.nodes.l h,(zbR f.nodes.l h).isSome)):=by
 refine zJO f h _ ?_
 unfold P43
 exact zjQ f.nodes.l h hf
theorem zkT (f:Forest) (h:Int) (hf:f.nodes.l.length≤2^40):pc prog 187 [zai f,.int .i64 h]=some (eT2 zah D.bool (nodeD f.nodes.l h,(zbR f.nodes.l h).isSome)):=by
 refine zIi f h _ ?_
 unfold zIh
 exact zjQ f.nodes.l h hf
theorem zpt (f:Forest) (h:Int) (hf:f.nodes.l.length≤2^40):pc prog 197 [zai f,.int .i64 h]=some (.int .u8 (nodeD f.nodes.l h).kind):=by
 refine zIC f h _ ?_
 unfold zIB
 rw[zeQ f h hf,zav (e:=eT2 zah D.bool)];rfl
theorem zpu (f:Forest) (h:Int) (hf:f.nodes.l.length≤2^40):pc prog 189 [zai f,.int .i64 h]=some (.int .u8 (nodeD f.nodes.l h).kind):=by
 refine zIm f h _ ?_
 unfold zIl
 rw[zkT f h hf,zav (e:=eT2 zah D.bool)];rfl
def zeb (n:Node):Int:=if n.kind==12 then n.host else n.parent
theorem zvF (n:Node):pc prog 199 [zah n]=some (.int .i64 (zeb n)):=by
 refine zIG n _ ?_
 unfold zIF zeb
 split<;>rfl
theorem zvG (n:Node):pc prog 182 [zah n]=some (.int .i64 (zeb n)):=by
 refine zHY n _ ?_
 unfold zHX zeb
 split<;>rfl
def zgX (k:Int):Bool:=k==3||k==4||k==7||k==8
def zkU (k:Int):Bool:=k==1||k==9||k==11||k==12
theorem zpv (k:Int):pc prog 194 [.int .u8 k]=some (.bool (zgX k)):=by
 refine zIw k _ ?_
 unfold zIv zgX
 simp only[bor]
theorem zpw (k:Int):pc prog 195 [.int .u8 k]=some (.bool (zkU k)):=by
 refine zIy k _ ?_
 unfold zIx zkU
 simp only[bor]
def zgm (k:Int):Bool:=zgX k||zkU k||k==10
theorem zvH (k:Int):pc prog 191 [.int .u8 k]=some (.bool (zgm k)):=by
 refine zIq k _ ?_
 unfold zIp zgm
 simp only[zpv,zpw,zav (e:=D.bool),Option.bind_some,bor]
 cases zgX k<;>rfl
def zmB (k:Int):forest_trait:=⟨zgm k,zgX k,zkU k,k==1||zgX k||k==10,k==1,k==7||k==10⟩
theorem zrG (k:Int):pc prog 183 [.int .u8 k]=some (zaB (zmB k)):=by
 refine zIa k _ ?_
 unfold zHZ zmB zgm zgX zkU
 by_cases h1:k=1
 ·subst h1;rfl
 by_cases h3:k=3
 ·subst h3;rfl
 by_cases h4:k=4
 ·subst h4;rfl
 by_cases h8:k=8
 ·subst h8;rfl
 by_cases h7:k=7
 ·subst h7;rfl
 by_cases h10:k=10
 ·subst h10;rfl
 by_cases h9:k=9
 ·subst h9;rfl
 by_cases h11:k=11
 ·subst h11;rfl
 by_cases h12:k=12
 ·subst h12;rfl
 simp[h1,h3,h4,h8,h7,h10,h9,h11,h12]
def ziP (l:List (List UInt8)):Bool:=l.all fun s=>decide (s.length≤1024)
theorem zvI (l:Sl (List UInt8)) (hl:l.l.length≤1000):pc prog 186 [.list l.n (l.l.map D.str)]=some (.bool (ziP l.l)):=by
 refine zIg l _ ?_
 unfold zIf
 rw[zhY (l:=l.l) (fun s=>decide (1024<s.length)) (Sum.inr ()) (Sum.inl ()) ?_ ?_,Option.bind_some]
 ·have:ziP l.l= !(l.l.any fun s=>decide (1024<s.length)):=by
   unfold ziP
   rw[List.all_eq_not_any_not]
   congr 2
   funext s
   rw[←decide_not];simp
  rw[this]
  cases(l.l.any fun s=>decide (1024<s.length))<;>rfl
 ·intro k hk
  have hw:=zbd (show k<2^62 by omega)
  simp only[zdd,zdo hk,Option.bind_some,hw]
  rw[if_pos (decide_eq_true (by omega)),show decide ((1024:Int)<(l.l[k].length:Int))=decide (1024<l.l[k].length) by rw[decide_eq_decide];omega]
  split<;>rfl
 ·simp only[zdd]
  rw[if_neg (by simp)]
theorem short_list (l:List (List UInt8)) (hl:l.length≤1000):pc prog 186 [.list false (l.map D.str)]=some (.bool (ziP l)):=zvI ⟨false,l⟩ hl
def zdq (n:Name):Bool:= !(n.local_==[])&&decide (n.space.length≤1024)&&decide (n.prefix_.length≤1024)&&decide (n.local_.length≤1024)&&(n.prefix_==[]|| !(n.space==[]))
theorem zol (s:List UInt8) (k:Nat):decide ((s.length:Int)≤(k:Int))=decide (s.length≤k):=by rw[decide_eq_decide];omega
theorem zmC (n:Name):pc prog 193 [zbL n]=some (.bool (zdq n)):=by
 refine zIu n _ ?_
 unfold zIt zdq
 have e:=zol n.space 1024
 have e2:=zol n.prefix_ 1024
 have e3:=zol n.local_ 1024
 simp only[bor,zps]
 rw[show decide ((n.space.length:Int)≤1024)=decide (n.space.length≤1024)from e,show decide ((n.prefix_.length:Int)≤1024)=decide (n.prefix_.length≤1024)from e2,show decide ((n.local_.length:Int)≤1024)=decide (n.local_.length≤1024)from e3]
 cases(!(n.local_==[])&&decide (n.space.length≤1024)&&decide (n.prefix_.length≤1024)&&decide (n.local_.length≤1024))<;>rfl
theorem zmD (n:Name):pc prog 203 [zbL n]=some (.bool (zdq n)):=by
 refine zII n _ ?_
 unfold zIH zdq
 rw[short_list _ (by simp),zav (e:=D.bool),Option.bind_some]
 simp only[bor,ziP,List.all_cons,List.all_nil,Bool.and_true]
 cases(n.local_==[])<;>cases decide (n.space.length≤1024)<;>cases decide (n.prefix_.length≤1024)<;>cases decide (n.local_.length≤1024)<;>rfl
theorem zCa (n:Name):pc prog 204 [zbL n]=some (zag ⟨n.space,n.local_⟩):=zIJ n _ rfl
def zgY (n:Name) (a:Attr):Bool:=a.name.space==n.space&&a.name.local_==n.local_
def zgn:List Attr→List Attr→Bool
 |_,[]=>true
 |pre,a::r=>zdq a.name&&decide (a.value.length≤4096)&& !(pre.any (zgY a.name))&&zgn (pre++[a]) r
def ziQ (l:List Attr):Bool:=decide (l.length≤64)&&zgn [] l
theorem zzh (l:Sl Attr) (n:Name) (hl:l.l.length≤2^40):pc prog 206 [.list l.n (l.l.map zaH),zbL n]=some (.int .i64 (match l.l.findIdx? (zgY n)with|some k=>(k:Int)|none=> -1)):=by
 refine zIN l n _ ?_
 unfold zIM
 rw[zgk (l:=l.l) (zgY n) (fun k=>Sum.inr (k:Int)) (Sum.inl ()) ?_ ?_,Option.bind_some]
 ·rcases List.findIdx? (zgY n) l.l with _|k<;>rfl
 ·intro k hk
  have hw:=zbd (show k<2^62 by omega)
  simp only[zdk,zdo hk,Option.bind_some,hw,zps]
  rw[if_pos (decide_eq_true (by omega))]
  show(if zgY n l.l[k]=true then _ else _)=_
  split<;>rfl
 ·simp only[zdk]
  rw[if_neg (by simp)]
theorem zrH {step:Int→Option (Int⊕(Unit⊕Unit))} {l:List Attr} (h:∀k (hk:k<l.length),step (k:Int)=some (if(zdq l[k].name&&decide (l[k].value.length≤4096)&& !((l.take k).any (zgY l[k].name)))=true then .inl ((k+1:Nat):Int)else .inr (.inr ()))) (he:step (l.length:Int)=some (.inr (.inl ()))):zaR step 0=some (if zgn [] l=true then .inl ()else .inr ()):=by
 have key:∀n k,k+n=l.length→zaR step (k:Int)=some (if zgn (l.take k) (l.drop k)=true then .inl ()else .inr ()):=by
  intro n
  induction n with
  |zero=>
   intro k hk
   obtain rfl:k=l.length:=by omega
   rw[List.drop_length];exact zaG he
  |succ n ih=>
   intro k hk
   have hl:k<l.length:=by omega
   have h1:=h k hl
   rw[List.drop_eq_getElem_cons hl]
   unfold zgn
   by_cases hp:(zdq l[k].name&&decide (l[k].value.length≤4096)&& !((l.take k).any (zgY l[k].name)))=true
   ·rw[if_pos hp]at h1
    rw[zaT h1,ih (k+1) (by omega),hp,Bool.true_and,List.take_succ_eq_append_getElem hl]
   ·rw[if_neg hp]at h1
    rw[zaG h1]
    simp only[Bool.not_eq_true]at hp
    rw[hp];simp
 exact key l.length 0 (by omega)
theorem zvJ (l:Sl Attr) (hl:l.l.length≤2^40):pc prog 192 [.list l.n (l.l.map zaH)]=some (.bool (ziQ l.l)):=by
 refine zIs l _ ?_
 unfold zIr ziQ
 by_cases h64:64<l.l.length
 ·rw[if_pos (decide_eq_true (by omega)),decide_eq_false (by omega)];rfl
 ·rw[if_neg (by simp;omega),decide_eq_true (by omega)]
  rw[zrH (l:=l.l) ?_ ?_,Option.bind_some]
  ·cases zgn [] l.l<;>rfl
  ·intro k hk
   have hw:=zbd (show k<2^62 by omega)
   have hf:=zzh ⟨l.n,l.l.take k⟩ l.l[k].name (by simp only[List.length_take];omega)
   simp only at hf
   have hc:cut l.l 0 (k:Int)=some (l.l.take k):=by
    unfold cut;rw[if_pos (by omega)];simp
   simp only[zdg,zdo hk,Option.bind_some,hw,zmC,zav (e:=D.bool),hc,hf,zav (e:=D.int .i64),bor]
   rw[if_pos (decide_eq_true (by omega)),show decide ((4096:Int)<(l.l[k].value.length:Int))= !(decide (l.l[k].value.length≤4096)) by rw[←decide_not,decide_eq_decide];omega]
   have hfi:decide (0≤(match(l.l.take k).findIdx? (zgY l.l[k].name)with|some j=>(j:Int)|none=> -1))=(l.l.take k).any (zgY l.l[k].name):=by
    rcases hx:(l.l.take k).findIdx? (zgY l.l[k].name)with _|j
    ·rw[List.findIdx?_eq_none_iff]at hx
     have:(l.l.take k).any (zgY l.l[k].name)=false:=by rw[List.any_eq_false];simpa using hx
     rw[this];rfl
    ·rw[List.findIdx?_eq_some_iff_getElem]at hx
     obtain⟨g1,g2,-⟩:=hx
     show decide ((0:Int)≤(j:Int))=_
     rw[decide_eq_true (by omega)]
     exact(List.any_eq_true.2 ⟨_,List.getElem_mem g1,g2⟩).symm
   rw[hfi]
   cases zdq l.l[k].name<;>cases decide (l.l[k].value.length≤4096)<;>cases(l.l.take k).any (zgY l.l[k].name)<;>rfl
  ·simp only[zdg]
   rw[if_neg (by simp)]
end Go.Proofs.Ythodcjjgimeeoaa.F
