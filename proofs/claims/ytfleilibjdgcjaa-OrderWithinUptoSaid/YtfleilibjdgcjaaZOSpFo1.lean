/- Shaken copy of a longer text: what one law needs. Its conditions: none. -/
import Derived.Test.YtfleilibjdgcjaaZODecO
import Derived.Test.YtfleilibjdgcjaaZOSpLoops
set_option linter.unusedSimpArgs false
set_option linter.unusedVariables false
set_option linter.unusedSimpArgs false
set_option linter.unusedVariables false
set_option linter.unusedSectionVars false
set_option linter.unnecessarySimpa false
namespace Go.Proofs.Ytfleilibjdgcjaa.O
open Go.AI
theorem w64 {n:Int} (h1: -9223372036854775808≤n) (h2:n≤9223372036854775807):IntKind.i64.wrap n=n:=by rw[IntKind.wrap_i64];omega
theorem bor {a b:Bool}:(bif a then true else b)=(a||b):=by cases a<;>rfl
theorem zms {a b:Bool}:(bif a then b else false)=(a&&b):=by cases a<;>rfl
def nd0:Node:=⟨0,⟨[],[],[]⟩,[],[],⟨true,[]⟩,⟨true,[]⟩,0,⟨true,[]⟩,0,0,0,0,false,false⟩
def zce (f:List Node) (h:Int):Option Node:=if 1≤h then f[(h-1).toNat]? else none
def nodeD (f:List Node) (h:Int):Node:=(zce f h).getD nd0
theorem zcm {f:List Node} {h:Int} {n:Node} (e:zce f h=some n):1≤h∧h≤f.length∧f[(h-1).toNat]? =some n:=by
 unfold zce at e
 split at e
 ·rename_i h1
  rcases Nat.lt_or_ge (h-1).toNat f.length with h2|h2
  ·exact⟨h1,by omega,e⟩
  ·rw[List.getElem?_eq_none h2]at e;cases e
 ·cases e
theorem zld {f:List Node} {h:Int} (e:zce f h=none):h<1∨(f.length:Int)<h:=by
 unfold zce at e
 split at e
 ·right
  rw[List.getElem?_eq_none_iff]at e;omega
 ·left;omega
theorem zhj {f:List Node} {h:Int} (h1:1≤h) (h2:h≤f.length):∃n,zce f h=some n:=by
 unfold zce
 rw[if_pos h1]
 exact⟨_,List.getElem?_eq_getElem (by omega)⟩
theorem zoA {f:List Node} {k:Nat} (h:k<f.length):zce f ((k:Int)+1)=some f[k]:=by
 unfold zce
 rw[if_pos (by omega),show((k:Int)+1-1).toNat=k by omega,List.getElem?_eq_getElem h]
theorem zgD {f:List Node} {h:Int} {n:Node} (e:zce f h=some n):rd f (h-1)=some n:=by
 obtain⟨h1,h2,h3⟩:=zcm e
 unfold rd
 rw[if_pos (by omega)];exact h3
theorem zle (f:List Node) (h:Int) (hf:f.length≤2^40):(if(bif (decide (h<1))then true else(decide ((f.length:Int)<h)))=true then some (nd0,false)else(rd f (IntKind.wrap .i64 (h-1))).bind fun y3=>some (y3,true))=some (nodeD f h,(zce f h).isSome):=by
 unfold nodeD
 rcases e:zce f h with _|n
 ·rcases zld e with h1|h1
  ·simp[h1]
  ·rw[bor,if_pos (by simp[h1])];rfl
 ·obtain⟨h1,h2,_⟩:=zcm e
  rw[bor,if_neg (by simp;omega),w64 (by omega) (by omega),zgD e];rfl
theorem zhk (f:Forest) (h:Int) (hf:f.nodes.l.length≤2^40):pc prog 31 [eForest f,.int .i64 h]=some (eT2 eNode D.bool (nodeD f.nodes.l h,(zce f.nodes.l h).isSome)):=by
 refine zNs f h _ ?_
 unfold P31
 exact zle f.nodes.l h hf
theorem zmt (f:Forest) (h:Int) (hf:f.nodes.l.length≤2^40):pc prog 219 [eForest f,.int .i64 h]=some (eT2 eNode D.bool (nodeD f.nodes.l h,(zce f.nodes.l h).isSome)):=by
 refine zML f h _ ?_
 unfold zMK
 exact zle f.nodes.l h hf
theorem zrF (f:Forest) (h:Int) (hf:f.nodes.l.length≤2^40):pc prog 206 [eForest f,.int .i64 h]=some (.int .u8 (nodeD f.nodes.l h).kind):=by
 refine zMr f h _ ?_
 unfold zMq
 rw[zhk f h hf,zap (e:=eT2 eNode D.bool)];rfl
theorem zrG (f:Forest) (h:Int) (hf:f.nodes.l.length≤2^40):pc prog 221 [eForest f,.int .i64 h]=some (.int .u8 (nodeD f.nodes.l h).kind):=by
 refine zMP f h _ ?_
 unfold zMO
 rw[zmt f h hf,zap (e:=eT2 eNode D.bool)];rfl
def zfc (n:Node):Int:=if n.kind==12 then n.host else n.parent
theorem zye (n:Node):pc prog 208 [eNode n]=some (.int .i64 (zfc n)):=by
 refine zMv n _ ?_
 unfold zMu zfc
 split<;>rfl
theorem zyf (n:Node):pc prog 214 [eNode n]=some (.int .i64 (zfc n)):=by
 refine zMB n _ ?_
 unfold zMA zfc
 split<;>rfl
def zif (k:Int):Bool:=k==3||k==4||k==7||k==8
def zmu (k:Int):Bool:=k==1||k==9||k==11||k==12
theorem zrH (k:Int):pc prog 115 [.int .u8 k]=some (.bool (zif k)):=by
 refine zLv k _ ?_
 unfold zLu zif
 simp only[bor]
theorem zrI (k:Int):pc prog 73 [.int .u8 k]=some (.bool (zmu k)):=by
 refine zNH k _ ?_
 unfold P73 zmu
 simp only[bor]
def zhl (k:Int):Bool:=zif k||zmu k||k==10
theorem zyg (k:Int):pc prog 202 [.int .u8 k]=some (.bool (zhl k)):=by
 refine zMj k _ ?_
 unfold zMi zhl
 simp only[zrH,zrI,zap (e:=D.bool),Option.bind_some,bor]
 cases zif k<;>rfl
def zoB (k:Int):forest_trait:=⟨zhl k,zif k,zmu k,k==1||zif k||k==10,k==1,k==7||k==10⟩
theorem ztQ (k:Int):pc prog 215 [.int .u8 k]=some (zaA (zoB k)):=by
 refine zMD k _ ?_
 unfold zMC zoB zhl zif zmu
 by_cases h1:k=1
 ·subst h1;rfl
 by_cases h3:k=3
 ·subst h3;rfl
 by_cases h4:k=4
 ·subst h4;rfl
 by_cases h8:k=8
 ·subst h8;rfl
 by_cases h7:k=7
 ·subst h7;rfl
 by_cases h10:k=10
 ·subst h10;rfl
 by_cases h9:k=9
 ·subst h9;rfl
 by_cases h11:k=11
 ·subst h11;rfl
 by_cases h12:k=12
 ·subst h12;rfl
 simp[h1,h3,h4,h8,h7,h10,h9,h11,h12]
def zke (l:List (List UInt8)):Bool:=l.all fun s=>decide (s.length≤1024)
theorem zyh (l:Sl (List UInt8)) (hl:l.l.length≤1000):pc prog 218 [.list l.n (l.l.map D.str)]=some (.bool (zke l.l)):=by
 refine zMJ l _ ?_
 unfold zMI
 rw[zhi (l:=l.l) (fun s=>decide (1024<s.length)) (Sum.inr ()) (Sum.inl ()) ?_ ?_,Option.bind_some]
 ·have:zke l.l= !(l.l.any fun s=>decide (1024<s.length)):=by
   unfold zke
   rw[List.all_eq_not_any_not]
   congr 2
   funext s
   rw[←decide_not];simp
  rw[this]
  cases(l.l.any fun s=>decide (1024<s.length))<;>rfl
 ·intro k hk
  have hw:=zaT (show k<2^62 by omega)
  simp only[zdy,zby hk,Option.bind_some,hw]
  rw[if_pos (decide_eq_true (by omega)),show decide ((1024:Int)<(l.l[k].length:Int))=decide (1024<l.l[k].length) by rw[decide_eq_decide];omega]
  split<;>rfl
 ·simp only[zdy]
  rw[if_neg (by simp)]
theorem short_list (l:List (List UInt8)) (hl:l.length≤1000):pc prog 218 [.list false (l.map D.str)]=some (.bool (zke l)):=zyh ⟨false,l⟩ hl
def zdM (n:Name):Bool:= !(n.local_==[])&&decide (n.space.length≤1024)&&decide (n.prefix_.length≤1024)&&decide (n.local_.length≤1024)&&(n.prefix_==[]|| !(n.space==[]))
theorem zqv (s:List UInt8) (k:Nat):decide ((s.length:Int)≤(k:Int))=decide (s.length≤k):=by rw[decide_eq_decide];omega
theorem zoC (n:Name):pc prog 204 [zbN n]=some (.bool (zdM n)):=by
 refine zMn n _ ?_
 unfold zMm zdM
 have e:=zqv n.space 1024
 have e2:=zqv n.prefix_ 1024
 have e3:=zqv n.local_ 1024
 simp only[bor,zms]
 rw[show decide ((n.space.length:Int)≤1024)=decide (n.space.length≤1024)from e,show decide ((n.prefix_.length:Int)≤1024)=decide (n.prefix_.length≤1024)from e2,show decide ((n.local_.length:Int)≤1024)=decide (n.local_.length≤1024)from e3]
 cases(!(n.local_==[])&&decide (n.space.length≤1024)&&decide (n.prefix_.length≤1024)&&decide (n.local_.length≤1024))<;>rfl
theorem zoD (n:Name):pc prog 229 [zbN n]=some (.bool (zdM n)):=by
 refine zMT n _ ?_
 unfold zMS zdM
 rw[short_list _ (by simp),zap (e:=D.bool),Option.bind_some]
 simp only[bor,zke,List.all_cons,List.all_nil,Bool.and_true]
 cases(n.local_==[])<;>cases decide (n.space.length≤1024)<;>cases decide (n.prefix_.length≤1024)<;>cases decide (n.local_.length≤1024)<;>rfl
theorem zFq (n:Name):pc prog 230 [zbN n]=some (zah ⟨n.space,n.local_⟩):=zMU n _ rfl
def zig (n:Name) (a:Attr):Bool:=a.name.space==n.space&&a.name.local_==n.local_
def zhm:List Attr→List Attr→Bool
 |_,[]=>true
 |pre,a::r=>zdM a.name&&decide (a.value.length≤4096)&& !(pre.any (zig a.name))&&zhm (pre++[a]) r
def zkf (l:List Attr):Bool:=decide (l.length≤64)&&zhm [] l
theorem zBY (l:Sl Attr) (n:Name) (hl:l.l.length≤2^40):pc prog 211 [.list l.n (l.l.map zaN),zbN n]=some (.int .i64 (match l.l.findIdx? (zig n)with|some k=>(k:Int)|none=> -1)):=by
 refine zMx l n _ ?_
 unfold zMw
 rw[zem (l:=l.l) (zig n) (fun k=>Sum.inr (k:Int)) (Sum.inl ()) ?_ ?_,Option.bind_some]
 ·rcases List.findIdx? (zig n) l.l with _|k<;>rfl
 ·intro k hk
  have hw:=zaT (show k<2^62 by omega)
  simp only[zdw,zby hk,Option.bind_some,hw,zms]
  rw[if_pos (decide_eq_true (by omega))]
  show(if zig n l.l[k]=true then _ else _)=_
  split<;>rfl
 ·simp only[zdw]
  rw[if_neg (by simp)]
theorem ztR {step:Int→Option (Int⊕(Unit⊕Unit))} {l:List Attr} (h:∀k (hk:k<l.length),step (k:Int)=some (if(zdM l[k].name&&decide (l[k].value.length≤4096)&& !((l.take k).any (zig l[k].name)))=true then .inl ((k+1:Nat):Int)else .inr (.inr ()))) (he:step (l.length:Int)=some (.inr (.inl ()))):zaQ step 0=some (if zhm [] l=true then .inl ()else .inr ()):=by
 have key:∀n k,k+n=l.length→zaQ step (k:Int)=some (if zhm (l.take k) (l.drop k)=true then .inl ()else .inr ()):=by
  intro n
  induction n with
  |zero=>
   intro k hk
   obtain rfl:k=l.length:=by omega
   rw[List.drop_length];exact zaz he
  |succ n ih=>
   intro k hk
   have hl:k<l.length:=by omega
   have h1:=h k hl
   rw[List.drop_eq_getElem_cons hl]
   unfold zhm
   by_cases hp:(zdM l[k].name&&decide (l[k].value.length≤4096)&& !((l.take k).any (zig l[k].name)))=true
   ·rw[if_pos hp]at h1
    rw[zaM h1,ih (k+1) (by omega),hp,Bool.true_and,List.take_succ_eq_append_getElem hl]
   ·rw[if_neg hp]at h1
    rw[zaz h1]
    simp only[Bool.not_eq_true]at hp
    rw[hp];simp
 exact key l.length 0 (by omega)
theorem zyi (l:Sl Attr) (hl:l.l.length≤2^40):pc prog 203 [.list l.n (l.l.map zaN)]=some (.bool (zkf l.l)):=by
 refine zMl l _ ?_
 unfold zMk zkf
 by_cases h64:64<l.l.length
 ·rw[if_pos (decide_eq_true (by omega)),decide_eq_false (by omega)];rfl
 ·rw[if_neg (by simp;omega),decide_eq_true (by omega)]
  rw[ztR (l:=l.l) ?_ ?_,Option.bind_some]
  ·cases zhm [] l.l<;>rfl
  ·intro k hk
   have hw:=zaT (show k<2^62 by omega)
   have hf:=zBY ⟨l.n,l.l.take k⟩ l.l[k].name (by simp only[List.length_take];omega)
   simp only at hf
   have hc:cut l.l 0 (k:Int)=some (l.l.take k):=by
    unfold cut;rw[if_pos (by omega)];simp
   simp only[zdt,zby hk,Option.bind_some,hw,zoC,zap (e:=D.bool),hc,hf,zap (e:=D.int .i64),bor]
   rw[if_pos (decide_eq_true (by omega)),show decide ((4096:Int)<(l.l[k].value.length:Int))= !(decide (l.l[k].value.length≤4096)) by rw[←decide_not,decide_eq_decide];omega]
   have hfi:decide (0≤(match(l.l.take k).findIdx? (zig l.l[k].name)with|some j=>(j:Int)|none=> -1))=(l.l.take k).any (zig l.l[k].name):=by
    rcases hx:(l.l.take k).findIdx? (zig l.l[k].name)with _|j
    ·rw[List.findIdx?_eq_none_iff]at hx
     have:(l.l.take k).any (zig l.l[k].name)=false:=by rw[List.any_eq_false];simpa using hx
     rw[this];rfl
    ·rw[List.findIdx?_eq_some_iff_getElem]at hx
     obtain⟨g1,g2,-⟩:=hx
     show decide ((0:Int)≤(j:Int))=_
     rw[decide_eq_true (by omega)]
     exact(List.any_eq_true.2 ⟨_,List.getElem_mem g1,g2⟩).symm
   rw[hfi]
   cases zdM l.l[k].name<;>cases decide (l.l[k].value.length≤4096)<;>cases(l.l.take k).any (zig l.l[k].name)<;>rfl
  ·simp only[zdt]
   rw[if_neg (by simp)]
end Go.Proofs.Ytfleilibjdgcjaa.O
