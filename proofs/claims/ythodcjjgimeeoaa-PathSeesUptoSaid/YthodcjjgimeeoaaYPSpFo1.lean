/- Shaken copy of a longer text: what one law needs. Its conditions: none. -/
import Derived.Test.YthodcjjgimeeoaaYPDecO
import Derived.Test.YthodcjjgimeeoaaYPSpLoops
set_option linter.unusedSimpArgs false
set_option linter.unusedVariables false
set_option linter.unusedSimpArgs false
set_option linter.unusedVariables false
set_option linter.unusedSectionVars false
set_option linter.unnecessarySimpa false
namespace Go.Proofs.Ythodcjjgimeeoaa.P
open Go.AI
theorem w64 {n:Int} (h1: -9223372036854775808≤n) (h2:n≤9223372036854775807):IntKind.i64.wrap n=n:=by rw[IntKind.wrap_i64];omega
theorem bor {a b:Bool}:(bif a then true else b)=(a||b):=by cases a<;>rfl
theorem zqg {a b:Bool}:(bif a then b else false)=(a&&b):=by cases a<;>rfl
def nd0:Node:=⟨0,⟨[],[],[]⟩,[],[],⟨true,[]⟩,⟨true,[]⟩,0,⟨true,[]⟩,0,0,0,0,false,false⟩
def zbY (f:List Node) (h:Int):Option Node:=if 1≤h then f[(h-1).toNat]? else none
def nodeD (f:List Node) (h:Int):Node:=(zbY f h).getD nd0
theorem zck {f:List Node} {h:Int} {n:Node} (e:zbY f h=some n):1≤h∧h≤f.length∧f[(h-1).toNat]? =some n:=by
 unfold zbY at e
 split at e
 ·rename_i h1
  rcases Nat.lt_or_ge (h-1).toNat f.length with h2|h2
  ·exact⟨h1,by omega,e⟩
  ·rw[List.getElem?_eq_none h2]at e;cases e
 ·cases e
theorem zki {f:List Node} {h:Int} (e:zbY f h=none):h<1∨(f.length:Int)<h:=by
 unfold zbY at e
 split at e
 ·right
  rw[List.getElem?_eq_none_iff]at e;omega
 ·left;omega
theorem ziv {f:List Node} {h:Int} (h1:1≤h) (h2:h≤f.length):∃n,zbY f h=some n:=by
 unfold zbY
 rw[if_pos h1]
 exact⟨_,List.getElem?_eq_getElem (by omega)⟩
theorem znc {f:List Node} {k:Nat} (h:k<f.length):zbY f ((k:Int)+1)=some f[k]:=by
 unfold zbY
 rw[if_pos (by omega),show((k:Int)+1-1).toNat=k by omega,List.getElem?_eq_getElem h]
theorem zhf {f:List Node} {h:Int} {n:Node} (e:zbY f h=some n):rd f (h-1)=some n:=by
 obtain⟨h1,h2,h3⟩:=zck e
 unfold rd
 rw[if_pos (by omega)];exact h3
theorem zkj (f:List Node) (h:Int) (hf:f.length≤2^40):(if(bif (decide (h<1))then true else(decide ((f.length:Int)<h)))=true then some (nd0,false)else(rd f (IntKind.wrap .i64 (h-1))).bind fun y3=>some (y3,true))=some (nodeD f h,(zbY f h).isSome):=by
 unfold nodeD
 rcases e:zbY f h with _|n
 ·rcases zki e with h1|h1
  ·simp[h1]
  ·rw[bor,if_pos (by simp[h1])];rfl
 ·obtain⟨h1,h2,_⟩:=zck e
  rw[bor,if_neg (by simp;omega),w64 (by omega) (by omega),zhf e];rfl
theorem zgB (f:Forest) (h:Int) (hf:f.nodes.l.length≤2^40):pc prog 43 [zam f,.int .i64 h]=some (eT2 zaj D.bool (nodeD f.nodes.l h,(zbY f.nodes.l h).isSome)):=by
 refine zKE f h _ ?_
 unfold P43
 exact zkj f.nodes.l h hf
theorem zll (f:Forest) (h:Int) (hf:f.nodes.l.length≤2^40):pc prog 187 [zam f,.int .i64 h]=some (eT2 zaj D.bool (nodeD f.nodes.l h,(zbY f.nodes.l h).isSome)):=by
 refine zJn f h _ ?_
 unfold zJm
 exact zkj f.nodes.l h hf
theorem zqh (f:Forest) (h:Int) (hf:f.nodes.l.length≤2^40):pc prog 197 [zam f,.int .i64 h]=some (.int .u8 (nodeD f.nodes.l h).kind):=by
 refine zJH f h _ ?_
 unfold zJG
 rw[zgB f h hf,zaz (e:=eT2 zaj D.bool)];rfl
theorem zqi (f:Forest) (h:Int) (hf:f.nodes.l.length≤2^40):pc prog 189 [zam f,.int .i64 h]=some (.int .u8 (nodeD f.nodes.l h).kind):=by
 refine zJr f h _ ?_
 unfold zJq
 rw[zll f h hf,zaz (e:=eT2 zaj D.bool)];rfl
def zjl (n:Node):Int:=if n.kind==12 then n.host else n.parent
theorem zwI (n:Node):pc prog 199 [zaj n]=some (.int .i64 (zjl n)):=by
 refine zJL n _ ?_
 unfold zJK zjl
 split<;>rfl
theorem zwJ (n:Node):pc prog 182 [zaj n]=some (.int .i64 (zjl n)):=by
 refine zJd n _ ?_
 unfold zJc zjl
 split<;>rfl
def zhg (k:Int):Bool:=k==3||k==4||k==7||k==8
def zlm (k:Int):Bool:=k==1||k==9||k==11||k==12
theorem zqj (k:Int):pc prog 194 [.int .u8 k]=some (.bool (zhg k)):=by
 refine zJB k _ ?_
 unfold zJA zhg
 simp only[bor]
theorem zqk (k:Int):pc prog 195 [.int .u8 k]=some (.bool (zlm k)):=by
 refine zJD k _ ?_
 unfold zJC zlm
 simp only[bor]
def zgC (k:Int):Bool:=zhg k||zlm k||k==10
theorem zwK (k:Int):pc prog 191 [.int .u8 k]=some (.bool (zgC k)):=by
 refine zJv k _ ?_
 unfold zJu zgC
 simp only[zqj,zqk,zaz (e:=D.bool),Option.bind_some,bor]
 cases zhg k<;>rfl
def znd (k:Int):forest_trait:=⟨zgC k,zhg k,zlm k,k==1||zhg k||k==10,k==1,k==7||k==10⟩
theorem zsF (k:Int):pc prog 183 [.int .u8 k]=some (zaG (znd k)):=by
 refine zJf k _ ?_
 unfold zJe znd zgC zhg zlm
 by_cases h1:k=1
 ·subst h1;rfl
 by_cases h3:k=3
 ·subst h3;rfl
 by_cases h4:k=4
 ·subst h4;rfl
 by_cases h8:k=8
 ·subst h8;rfl
 by_cases h7:k=7
 ·subst h7;rfl
 by_cases h10:k=10
 ·subst h10;rfl
 by_cases h9:k=9
 ·subst h9;rfl
 by_cases h11:k=11
 ·subst h11;rfl
 by_cases h12:k=12
 ·subst h12;rfl
 simp[h1,h3,h4,h8,h7,h10,h9,h11,h12]
def zjm (l:List (List UInt8)):Bool:=l.all fun s=>decide (s.length≤1024)
theorem zwL (l:Sl (List UInt8)) (hl:l.l.length≤1000):pc prog 186 [.list l.n (l.l.map D.str)]=some (.bool (zjm l.l)):=by
 refine zJl l _ ?_
 unfold zJk
 rw[zlk (l:=l.l) (fun s=>decide (1024<s.length)) (Sum.inr ()) (Sum.inl ()) ?_ ?_,Option.bind_some]
 ·have:zjm l.l= !(l.l.any fun s=>decide (1024<s.length)):=by
   unfold zjm
   rw[List.all_eq_not_any_not]
   congr 2
   funext s
   rw[←decide_not];simp
  rw[this]
  cases(l.l.any fun s=>decide (1024<s.length))<;>rfl
 ·intro k hk
  have hw:=zaU (show k<2^62 by omega)
  simp only[zdw,zbi hk,Option.bind_some,hw]
  rw[if_pos (decide_eq_true (by omega)),show decide ((1024:Int)<(l.l[k].length:Int))=decide (1024<l.l[k].length) by rw[decide_eq_decide];omega]
  split<;>rfl
 ·simp only[zdw]
  rw[if_neg (by simp)]
theorem short_list (l:List (List UInt8)) (hl:l.length≤1000):pc prog 186 [.list false (l.map D.str)]=some (.bool (zjm l)):=zwL ⟨false,l⟩ hl
def zdI (n:Name):Bool:= !(n.local_==[])&&decide (n.space.length≤1024)&&decide (n.prefix_.length≤1024)&&decide (n.local_.length≤1024)&&(n.prefix_==[]|| !(n.space==[]))
theorem zoS (s:List UInt8) (k:Nat):decide ((s.length:Int)≤(k:Int))=decide (s.length≤k):=by rw[decide_eq_decide];omega
theorem zne (n:Name):pc prog 193 [zbR n]=some (.bool (zdI n)):=by
 refine zJz n _ ?_
 unfold zJy zdI
 have e:=zoS n.space 1024
 have e2:=zoS n.prefix_ 1024
 have e3:=zoS n.local_ 1024
 simp only[bor,zqg]
 rw[show decide ((n.space.length:Int)≤1024)=decide (n.space.length≤1024)from e,show decide ((n.prefix_.length:Int)≤1024)=decide (n.prefix_.length≤1024)from e2,show decide ((n.local_.length:Int)≤1024)=decide (n.local_.length≤1024)from e3]
 cases(!(n.local_==[])&&decide (n.space.length≤1024)&&decide (n.prefix_.length≤1024)&&decide (n.local_.length≤1024))<;>rfl
theorem znf (n:Name):pc prog 203 [zbR n]=some (.bool (zdI n)):=by
 refine zJN n _ ?_
 unfold zJM zdI
 rw[short_list _ (by simp),zaz (e:=D.bool),Option.bind_some]
 simp only[bor,zjm,List.all_cons,List.all_nil,Bool.and_true]
 cases(n.local_==[])<;>cases decide (n.space.length≤1024)<;>cases decide (n.prefix_.length≤1024)<;>cases decide (n.local_.length≤1024)<;>rfl
theorem zDw (n:Name):pc prog 204 [zbR n]=some (zah ⟨n.space,n.local_⟩):=zJO n _ rfl
def zhh (n:Name) (a:Attr):Bool:=a.name.space==n.space&&a.name.local_==n.local_
def zgD:List Attr→List Attr→Bool
 |_,[]=>true
 |pre,a::r=>zdI a.name&&decide (a.value.length≤4096)&& !(pre.any (zhh a.name))&&zgD (pre++[a]) r
def zjn (l:List Attr):Bool:=decide (l.length≤64)&&zgD [] l
theorem zAo (l:Sl Attr) (n:Name) (hl:l.l.length≤2^40):pc prog 206 [.list l.n (l.l.map zaL),zbR n]=some (.int .i64 (match l.l.findIdx? (zhh n)with|some k=>(k:Int)|none=> -1)):=by
 refine zJS l n _ ?_
 unfold zJR
 rw[zgA (l:=l.l) (zhh n) (fun k=>Sum.inr (k:Int)) (Sum.inl ()) ?_ ?_,Option.bind_some]
 ·rcases List.findIdx? (zhh n) l.l with _|k<;>rfl
 ·intro k hk
  have hw:=zaU (show k<2^62 by omega)
  simp only[zdD,zbi hk,Option.bind_some,hw,zqg]
  rw[if_pos (decide_eq_true (by omega))]
  show(if zhh n l.l[k]=true then _ else _)=_
  split<;>rfl
 ·simp only[zdD]
  rw[if_neg (by simp)]
theorem zsG {step:Int→Option (Int⊕(Unit⊕Unit))} {l:List Attr} (h:∀k (hk:k<l.length),step (k:Int)=some (if(zdI l[k].name&&decide (l[k].value.length≤4096)&& !((l.take k).any (zhh l[k].name)))=true then .inl ((k+1:Nat):Int)else .inr (.inr ()))) (he:step (l.length:Int)=some (.inr (.inl ()))):zaR step 0=some (if zgD [] l=true then .inl ()else .inr ()):=by
 have key:∀n k,k+n=l.length→zaR step (k:Int)=some (if zgD (l.take k) (l.drop k)=true then .inl ()else .inr ()):=by
  intro n
  induction n with
  |zero=>
   intro k hk
   obtain rfl:k=l.length:=by omega
   rw[List.drop_length];exact zaB he
  |succ n ih=>
   intro k hk
   have hl:k<l.length:=by omega
   have h1:=h k hl
   rw[List.drop_eq_getElem_cons hl]
   unfold zgD
   by_cases hp:(zdI l[k].name&&decide (l[k].value.length≤4096)&& !((l.take k).any (zhh l[k].name)))=true
   ·rw[if_pos hp]at h1
    rw[zaH h1,ih (k+1) (by omega),hp,Bool.true_and,List.take_succ_eq_append_getElem hl]
   ·rw[if_neg hp]at h1
    rw[zaB h1]
    simp only[Bool.not_eq_true]at hp
    rw[hp];simp
 exact key l.length 0 (by omega)
theorem zwM (l:Sl Attr) (hl:l.l.length≤2^40):pc prog 192 [.list l.n (l.l.map zaL)]=some (.bool (zjn l.l)):=by
 refine zJx l _ ?_
 unfold zJw zjn
 by_cases h64:64<l.l.length
 ·rw[if_pos (decide_eq_true (by omega)),decide_eq_false (by omega)];rfl
 ·rw[if_neg (by simp;omega),decide_eq_true (by omega)]
  rw[zsG (l:=l.l) ?_ ?_,Option.bind_some]
  ·cases zgD [] l.l<;>rfl
  ·intro k hk
   have hw:=zaU (show k<2^62 by omega)
   have hf:=zAo ⟨l.n,l.l.take k⟩ l.l[k].name (by simp only[List.length_take];omega)
   simp only at hf
   have hc:cut l.l 0 (k:Int)=some (l.l.take k):=by
    unfold cut;rw[if_pos (by omega)];simp
   simp only[zdz,zbi hk,Option.bind_some,hw,zne,zaz (e:=D.bool),hc,hf,zaz (e:=D.int .i64),bor]
   rw[if_pos (decide_eq_true (by omega)),show decide ((4096:Int)<(l.l[k].value.length:Int))= !(decide (l.l[k].value.length≤4096)) by rw[←decide_not,decide_eq_decide];omega]
   have hfi:decide (0≤(match(l.l.take k).findIdx? (zhh l.l[k].name)with|some j=>(j:Int)|none=> -1))=(l.l.take k).any (zhh l.l[k].name):=by
    rcases hx:(l.l.take k).findIdx? (zhh l.l[k].name)with _|j
    ·rw[List.findIdx?_eq_none_iff]at hx
     have:(l.l.take k).any (zhh l.l[k].name)=false:=by rw[List.any_eq_false];simpa using hx
     rw[this];rfl
    ·rw[List.findIdx?_eq_some_iff_getElem]at hx
     obtain⟨g1,g2,-⟩:=hx
     show decide ((0:Int)≤(j:Int))=_
     rw[decide_eq_true (by omega)]
     exact(List.any_eq_true.2 ⟨_,List.getElem_mem g1,g2⟩).symm
   rw[hfi]
   cases zdI l.l[k].name<;>cases decide (l.l[k].value.length≤4096)<;>cases(l.l.take k).any (zhh l.l[k].name)<;>rfl
  ·simp only[zdz]
   rw[if_neg (by simp)]
end Go.Proofs.Ythodcjjgimeeoaa.P
