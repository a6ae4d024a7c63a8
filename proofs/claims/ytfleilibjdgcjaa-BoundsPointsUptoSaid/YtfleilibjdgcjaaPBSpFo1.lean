/- Shaken copy of a longer text: what one law needs. Its conditions: none. -/
import Derived.Test.YtfleilibjdgcjaaPBDecO
import Derived.Test.YtfleilibjdgcjaaPBSpLoops
set_option linter.unusedSimpArgs false
set_option linter.unusedVariables false
set_option linter.unusedSimpArgs false
set_option linter.unusedVariables false
set_option linter.unusedSectionVars false
set_option linter.unnecessarySimpa false
namespace Go.Proofs.Ytfleilibjdgcjaa.B
open Go.AI
theorem w64 {n:Int} (h1: -9223372036854775808≤n) (h2:n≤9223372036854775807):IntKind.i64.wrap n=n:=by rw[IntKind.wrap_i64];omega
theorem bor {a b:Bool}:(bif a then true else b)=(a||b):=by cases a<;>rfl
theorem zsa {a b:Bool}:(bif a then b else false)=(a&&b):=by cases a<;>rfl
def nd0:Node:=⟨0,⟨[],[],[]⟩,[],[],⟨true,[]⟩,⟨true,[]⟩,0,⟨true,[]⟩,0,0,0,0,false,false⟩
def zbG (f:List Node) (h:Int):Option Node:=if 1≤h then f[(h-1).toNat]? else none
def nodeD (f:List Node) (h:Int):Node:=(zbG f h).getD nd0
theorem zcr {f:List Node} {h:Int} {n:Node} (e:zbG f h=some n):1≤h∧h≤f.length∧f[(h-1).toNat]? =some n:=by
 unfold zbG at e
 split at e
 ·rename_i h1
  rcases Nat.lt_or_ge (h-1).toNat f.length with h2|h2
  ·exact⟨h1,by omega,e⟩
  ·rw[List.getElem?_eq_none h2]at e;cases e
 ·cases e
theorem zlq {f:List Node} {h:Int} (e:zbG f h=none):h<1∨(f.length:Int)<h:=by
 unfold zbG at e
 split at e
 ·right
  rw[List.getElem?_eq_none_iff]at e;omega
 ·left;omega
theorem zjh {f:List Node} {h:Int} (h1:1≤h) (h2:h≤f.length):∃n,zbG f h=some n:=by
 unfold zbG
 rw[if_pos h1]
 exact⟨_,List.getElem?_eq_getElem (by omega)⟩
theorem zoC {f:List Node} {k:Nat} (h:k<f.length):zbG f ((k:Int)+1)=some f[k]:=by
 unfold zbG
 rw[if_pos (by omega),show((k:Int)+1-1).toNat=k by omega,List.getElem?_eq_getElem h]
theorem zif {f:List Node} {h:Int} {n:Node} (e:zbG f h=some n):rd f (h-1)=some n:=by
 obtain⟨h1,h2,h3⟩:=zcr e
 unfold rd
 rw[if_pos (by omega)];exact h3
theorem zlr (f:List Node) (h:Int) (hf:f.length≤2^40):(if(bif (decide (h<1))then true else(decide ((f.length:Int)<h)))=true then some (nd0,false)else(rd f (IntKind.wrap .i64 (h-1))).bind fun y3=>some (y3,true))=some (nodeD f h,(zbG f h).isSome):=by
 unfold nodeD
 rcases e:zbG f h with _|n
 ·rcases zlq e with h1|h1
  ·simp[h1]
  ·rw[bor,if_pos (by simp[h1])];rfl
 ·obtain⟨h1,h2,_⟩:=zcr e
  rw[bor,if_neg (by simp;omega),w64 (by omega) (by omega),zif e];rfl
theorem zdU (f:Forest) (h:Int) (hf:f.nodes.l.length≤2^40):pc prog 31 [zad f,.int .i64 h]=some (eT2 zag D.bool (nodeD f.nodes.l h,(zbG f.nodes.l h).isSome)):=by
 refine zOJ f h _ ?_
 unfold P31
 exact zlr f.nodes.l h hf
theorem zmE (f:Forest) (h:Int) (hf:f.nodes.l.length≤2^40):pc prog 219 [zad f,.int .i64 h]=some (eT2 zag D.bool (nodeD f.nodes.l h,(zbG f.nodes.l h).isSome)):=by
 refine zNt f h _ ?_
 unfold zNs
 exact zlr f.nodes.l h hf
theorem zsb (f:Forest) (h:Int) (hf:f.nodes.l.length≤2^40):pc prog 206 [zad f,.int .i64 h]=some (.int .u8 (nodeD f.nodes.l h).kind):=by
 refine zNb f h _ ?_
 unfold zNa
 rw[zdU f h hf,zat (e:=eT2 zag D.bool)];rfl
theorem zsc (f:Forest) (h:Int) (hf:f.nodes.l.length≤2^40):pc prog 221 [zad f,.int .i64 h]=some (.int .u8 (nodeD f.nodes.l h).kind):=by
 refine zNx f h _ ?_
 unfold zNw
 rw[zmE f h hf,zat (e:=eT2 zag D.bool)];rfl
def zkn (n:Node):Int:=if n.kind==12 then n.host else n.parent
theorem zyM (n:Node):pc prog 208 [zag n]=some (.int .i64 (zkn n)):=by
 refine zNf n _ ?_
 unfold zNe zkn
 split<;>rfl
theorem zyN (n:Node):pc prog 214 [zag n]=some (.int .i64 (zkn n)):=by
 refine zNj n _ ?_
 unfold zNi zkn
 split<;>rfl
def zcc (k:Int):Bool:=k==3||k==4||k==7||k==8
def zko (k:Int):Bool:=k==1||k==9||k==11||k==12
theorem zji (k:Int):pc prog 115 [.int .u8 k]=some (.bool (zcc k)):=by
 refine zMv k _ ?_
 unfold zMu zcc
 simp only[bor]
theorem zsd (k:Int):pc prog 73 [.int .u8 k]=some (.bool (zko k)):=by
 refine zOL k _ ?_
 unfold P73 zko
 simp only[bor]
def zhr (k:Int):Bool:=zcc k||zko k||k==10
theorem zyO (k:Int):pc prog 202 [.int .u8 k]=some (.bool (zhr k)):=by
 refine zMT k _ ?_
 unfold zMS zhr
 simp only[zji,zsd,zat (e:=D.bool),Option.bind_some,bor]
 cases zcc k<;>rfl
def zoD (k:Int):forest_trait:=⟨zhr k,zcc k,zko k,k==1||zcc k||k==10,k==1,k==7||k==10⟩
theorem zuE (k:Int):pc prog 215 [.int .u8 k]=some (zay (zoD k)):=by
 refine zNl k _ ?_
 unfold zNk zoD zhr zcc zko
 by_cases h1:k=1
 ·subst h1;rfl
 by_cases h3:k=3
 ·subst h3;rfl
 by_cases h4:k=4
 ·subst h4;rfl
 by_cases h8:k=8
 ·subst h8;rfl
 by_cases h7:k=7
 ·subst h7;rfl
 by_cases h10:k=10
 ·subst h10;rfl
 by_cases h9:k=9
 ·subst h9;rfl
 by_cases h11:k=11
 ·subst h11;rfl
 by_cases h12:k=12
 ·subst h12;rfl
 simp[h1,h3,h4,h8,h7,h10,h9,h11,h12]
def zkp (l:List (List UInt8)):Bool:=l.all fun s=>decide (s.length≤1024)
theorem zyP (l:Sl (List UInt8)) (hl:l.l.length≤1000):pc prog 218 [.list l.n (l.l.map D.str)]=some (.bool (zkp l.l)):=by
 refine zNr l _ ?_
 unfold zNq
 rw[zdT (l:=l.l) (fun s=>decide (1024<s.length)) (Sum.inr ()) (Sum.inl ()) ?_ ?_,Option.bind_some]
 ·have:zkp l.l= !(l.l.any fun s=>decide (1024<s.length)):=by
   unfold zkp
   rw[List.all_eq_not_any_not]
   congr 2
   funext s
   rw[←decide_not];simp
  rw[this]
  cases(l.l.any fun s=>decide (1024<s.length))<;>rfl
 ·intro k hk
  have hw:=zaM (show k<2^62 by omega)
  simp only[zdG,zbo hk,Option.bind_some,hw]
  rw[if_pos (decide_eq_true (by omega)),show decide ((1024:Int)<(l.l[k].length:Int))=decide (1024<l.l[k].length) by rw[decide_eq_decide];omega]
  split<;>rfl
 ·simp only[zdG]
  rw[if_neg (by simp)]
theorem short_list (l:List (List UInt8)) (hl:l.length≤1000):pc prog 218 [.list false (l.map D.str)]=some (.bool (zkp l)):=zyP ⟨false,l⟩ hl
def zdV (n:Name):Bool:= !(n.local_==[])&&decide (n.space.length≤1024)&&decide (n.prefix_.length≤1024)&&decide (n.local_.length≤1024)&&(n.prefix_==[]|| !(n.space==[]))
theorem zqz (s:List UInt8) (k:Nat):decide ((s.length:Int)≤(k:Int))=decide (s.length≤k):=by rw[decide_eq_decide];omega
theorem zoE (n:Name):pc prog 204 [zbE n]=some (.bool (zdV n)):=by
 refine zMX n _ ?_
 unfold zMW zdV
 have e:=zqz n.space 1024
 have e2:=zqz n.prefix_ 1024
 have e3:=zqz n.local_ 1024
 simp only[bor,zsa]
 rw[show decide ((n.space.length:Int)≤1024)=decide (n.space.length≤1024)from e,show decide ((n.prefix_.length:Int)≤1024)=decide (n.prefix_.length≤1024)from e2,show decide ((n.local_.length:Int)≤1024)=decide (n.local_.length≤1024)from e3]
 cases(!(n.local_==[])&&decide (n.space.length≤1024)&&decide (n.prefix_.length≤1024)&&decide (n.local_.length≤1024))<;>rfl
theorem zoF (n:Name):pc prog 229 [zbE n]=some (.bool (zdV n)):=by
 refine zNB n _ ?_
 unfold zNA zdV
 rw[short_list _ (by simp),zat (e:=D.bool),Option.bind_some]
 simp only[bor,zkp,List.all_cons,List.all_nil,Bool.and_true]
 cases(n.local_==[])<;>cases decide (n.space.length≤1024)<;>cases decide (n.prefix_.length≤1024)<;>cases decide (n.local_.length≤1024)<;>rfl
theorem zGd (n:Name):pc prog 230 [zbE n]=some (zah ⟨n.space,n.local_⟩):=zNC n _ rfl
def zig (n:Name) (a:Attr):Bool:=a.name.space==n.space&&a.name.local_==n.local_
def zhs:List Attr→List Attr→Bool
 |_,[]=>true
 |pre,a::r=>zdV a.name&&decide (a.value.length≤4096)&& !(pre.any (zig a.name))&&zhs (pre++[a]) r
def zkq (l:List Attr):Bool:=decide (l.length≤64)&&zhs [] l
theorem zCB (l:Sl Attr) (n:Name) (hl:l.l.length≤2^40):pc prog 211 [.list l.n (l.l.map zaG),zbE n]=some (.int .i64 (match l.l.findIdx? (zig n)with|some k=>(k:Int)|none=> -1)):=by
 refine zNh l n _ ?_
 unfold zNg
 rw[zfh (l:=l.l) (zig n) (fun k=>Sum.inr (k:Int)) (Sum.inl ()) ?_ ?_,Option.bind_some]
 ·rcases List.findIdx? (zig n) l.l with _|k<;>rfl
 ·intro k hk
  have hw:=zaM (show k<2^62 by omega)
  simp only[zdE,zbo hk,Option.bind_some,hw,zsa]
  rw[if_pos (decide_eq_true (by omega))]
  show(if zig n l.l[k]=true then _ else _)=_
  split<;>rfl
 ·simp only[zdE]
  rw[if_neg (by simp)]
theorem zuF {step:Int→Option (Int⊕(Unit⊕Unit))} {l:List Attr} (h:∀k (hk:k<l.length),step (k:Int)=some (if(zdV l[k].name&&decide (l[k].value.length≤4096)&& !((l.take k).any (zig l[k].name)))=true then .inl ((k+1:Nat):Int)else .inr (.inr ()))) (he:step (l.length:Int)=some (.inr (.inl ()))):zaO step 0=some (if zhs [] l=true then .inl ()else .inr ()):=by
 have key:∀n k,k+n=l.length→zaO step (k:Int)=some (if zhs (l.take k) (l.drop k)=true then .inl ()else .inr ()):=by
  intro n
  induction n with
  |zero=>
   intro k hk
   obtain rfl:k=l.length:=by omega
   rw[List.drop_length];exact zaK he
  |succ n ih=>
   intro k hk
   have hl:k<l.length:=by omega
   have h1:=h k hl
   rw[List.drop_eq_getElem_cons hl]
   unfold zhs
   by_cases hp:(zdV l[k].name&&decide (l[k].value.length≤4096)&& !((l.take k).any (zig l[k].name)))=true
   ·rw[if_pos hp]at h1
    rw[zaZ h1,ih (k+1) (by omega),hp,Bool.true_and,List.take_succ_eq_append_getElem hl]
   ·rw[if_neg hp]at h1
    rw[zaK h1]
    simp only[Bool.not_eq_true]at hp
    rw[hp];simp
 exact key l.length 0 (by omega)
theorem zyQ (l:Sl Attr) (hl:l.l.length≤2^40):pc prog 203 [.list l.n (l.l.map zaG)]=some (.bool (zkq l.l)):=by
 refine zMV l _ ?_
 unfold zMU zkq
 by_cases h64:64<l.l.length
 ·rw[if_pos (decide_eq_true (by omega)),decide_eq_false (by omega)];rfl
 ·rw[if_neg (by simp;omega),decide_eq_true (by omega)]
  rw[zuF (l:=l.l) ?_ ?_,Option.bind_some]
  ·cases zhs [] l.l<;>rfl
  ·intro k hk
   have hw:=zaM (show k<2^62 by omega)
   have hf:=zCB ⟨l.n,l.l.take k⟩ l.l[k].name (by simp only[List.length_take];omega)
   simp only at hf
   have hc:cut l.l 0 (k:Int)=some (l.l.take k):=by
    unfold cut;rw[if_pos (by omega)];simp
   simp only[zdB,zbo hk,Option.bind_some,hw,zoE,zat (e:=D.bool),hc,hf,zat (e:=D.int .i64),bor]
   rw[if_pos (decide_eq_true (by omega)),show decide ((4096:Int)<(l.l[k].value.length:Int))= !(decide (l.l[k].value.length≤4096)) by rw[←decide_not,decide_eq_decide];omega]
   have hfi:decide (0≤(match(l.l.take k).findIdx? (zig l.l[k].name)with|some j=>(j:Int)|none=> -1))=(l.l.take k).any (zig l.l[k].name):=by
    rcases hx:(l.l.take k).findIdx? (zig l.l[k].name)with _|j
    ·rw[List.findIdx?_eq_none_iff]at hx
     have:(l.l.take k).any (zig l.l[k].name)=false:=by rw[List.any_eq_false];simpa using hx
     rw[this];rfl
    ·rw[List.findIdx?_eq_some_iff_getElem]at hx
     obtain⟨g1,g2,-⟩:=hx
     show decide ((0:Int)≤(j:Int))=_
     rw[decide_eq_true (by omega)]
     exact(List.any_eq_true.2 ⟨_,List.getElem_mem g1,g2⟩).symm
   rw[hfi]
   cases zdV l.l[k].name<;>cases decide (l.l[k].value.length≤4096)<;>cases(l.l.take k).any (zig l.l[k].name)<;>rfl
  ·simp only[zdB]
   rw[if_neg (by simp)]
end Go.Proofs.Ytfleilibjdgcjaa.B
