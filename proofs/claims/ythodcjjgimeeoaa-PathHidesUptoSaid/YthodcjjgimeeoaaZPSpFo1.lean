/- Shaken copy of a longer text: what one law needs. Its conditions: none. -/
import Derived.Test.YthodcjjgimeeoaaZPDecO
import Derived.Test.YthodcjjgimeeoaaZPSpLoops
set_option linter.unusedSimpArgs false
set_option linter.unusedVariables false
set_option linter.unusedSimpArgs false
set_option linter.unusedVariables false
set_option linter.unusedSectionVars false
set_option linter.unnecessarySimpa false
namespace Go.Proofs.Ythodcjjgimeeoaa.P
open Go.AI
theorem w64 {n:Int} (h1: -9223372036854775808≤n) (h2:n≤9223372036854775807):IntKind.i64.wrap n=n:=by rw[IntKind.wrap_i64];omega
theorem bor {a b:Bool}:(bif a then true else b)=(a||b):=by cases a<;>rfl
theorem zyJ {a b:Bool}:(bif a then b else false)=(a&&b):=by cases a<;>rfl
def nd0:Node:=⟨0,⟨[],[],[]⟩,[],[],⟨true,[]⟩,⟨true,[]⟩,0,⟨true,[]⟩,0,0,0,0,false,false⟩
def zcF (f:List Node) (h:Int):Option Node:=if 1≤h then f[(h-1).toNat]? else none
def nodeD (f:List Node) (h:Int):Node:=(zcF f h).getD nd0
theorem zcP {f:List Node} {h:Int} {n:Node} (e:zcF f h=some n):1≤h∧h≤f.length∧f[(h-1).toNat]? =some n:=by
 unfold zcF at e
 split at e
 ·rename_i h1
  rcases Nat.lt_or_ge (h-1).toNat f.length with h2|h2
  ·exact⟨h1,by omega,e⟩
  ·rw[List.getElem?_eq_none h2]at e;cases e
 ·cases e
theorem zkG {f:List Node} {h:Int} (e:zcF f h=none):h<1∨(f.length:Int)<h:=by
 unfold zcF at e
 split at e
 ·right
  rw[List.getElem?_eq_none_iff]at e;omega
 ·left;omega
theorem zlQ {f:List Node} {h:Int} (h1:1≤h) (h2:h≤f.length):∃n,zcF f h=some n:=by
 unfold zcF
 rw[if_pos h1]
 exact⟨_,List.getElem?_eq_getElem (by omega)⟩
theorem zxV {f:List Node} {k:Nat} (h:k<f.length):zcF f ((k:Int)+1)=some f[k]:=by
 unfold zcF
 rw[if_pos (by omega),show((k:Int)+1-1).toNat=k by omega,List.getElem?_eq_getElem h]
theorem zlR {f:List Node} {h:Int} {n:Node} (e:zcF f h=some n):rd f (h-1)=some n:=by
 obtain⟨h1,h2,h3⟩:=zcP e
 unfold rd
 rw[if_pos (by omega)];exact h3
theorem zkH (f:List Node) (h:Int) (hf:f.length≤2^40):(if(bif (decide (h<1))then true else(decide ((f.length:Int)<h)))=true then some (nd0,false)else(rd f (IntKind.wrap .i64 (h-1))).bind fun y3=>some (y3,true))=some (nodeD f h,(zcF f h).isSome):=by
 unfold nodeD
 rcases e:zcF f h with _|n
 ·rcases zkG e with h1|h1
  ·simp[h1]
  ·rw[bor,if_pos (by simp[h1])];rfl
 ·obtain⟨h1,h2,_⟩:=zcP e
  rw[bor,if_neg (by simp;omega),w64 (by omega) (by omega),zlR e];rfl
theorem zlS (f:Forest) (h:Int) (hf:f.nodes.l.length≤2^40):pc prog 43 [zae f,.int .i64 h]=some (eT2 zam D.bool (nodeD f.nodes.l h,(zcF f.nodes.l h).isSome)):=by
 refine zMf f h _ ?_
 unfold P43
 exact zkH f.nodes.l h hf
theorem zlT (f:Forest) (h:Int) (hf:f.nodes.l.length≤2^40):pc prog 187 [zae f,.int .i64 h]=some (eT2 zam D.bool (nodeD f.nodes.l h,(zcF f.nodes.l h).isSome)):=by
 refine zKV f h _ ?_
 unfold zKU
 exact zkH f.nodes.l h hf
theorem zrk (f:Forest) (h:Int) (hf:f.nodes.l.length≤2^40):pc prog 189 [zae f,.int .i64 h]=some (.int .u8 (nodeD f.nodes.l h).kind):=by
 refine zKZ f h _ ?_
 unfold zKY
 rw[zlT f h hf,zaA (e:=eT2 zam D.bool)];rfl
def zfW (n:Node):Int:=if n.kind==12 then n.host else n.parent
theorem zxW (n:Node):pc prog 182 [zam n]=some (.int .i64 (zfW n)):=by
 refine zKL n _ ?_
 unfold zKK zfW
 split<;>rfl
def znY (k:Int):Bool:=k==3||k==4||k==7||k==8
def zxX (k:Int):Bool:=k==1||k==9||k==11||k==12
def zrl (k:Int):Bool:=znY k||zxX k||k==10
def znZ (k:Int):forest_trait:=⟨zrl k,znY k,zxX k,k==1||znY k||k==10,k==1,k==7||k==10⟩
theorem ztK (k:Int):pc prog 183 [.int .u8 k]=some (zaF (znZ k)):=by
 refine zKN k _ ?_
 unfold zKM znZ zrl znY zxX
 by_cases h1:k=1
 ·subst h1;rfl
 by_cases h3:k=3
 ·subst h3;rfl
 by_cases h4:k=4
 ·subst h4;rfl
 by_cases h8:k=8
 ·subst h8;rfl
 by_cases h7:k=7
 ·subst h7;rfl
 by_cases h10:k=10
 ·subst h10;rfl
 by_cases h9:k=9
 ·subst h9;rfl
 by_cases h11:k=11
 ·subst h11;rfl
 by_cases h12:k=12
 ·subst h12;rfl
 simp[h1,h3,h4,h8,h7,h10,h9,h11,h12]
def zjF (l:List (List UInt8)):Bool:=l.all fun s=>decide (s.length≤1024)
theorem zxY (l:Sl (List UInt8)) (hl:l.l.length≤1000):pc prog 186 [.list l.n (l.l.map D.str)]=some (.bool (zjF l.l)):=by
 refine zKT l _ ?_
 unfold zKS
 rw[zlP (l:=l.l) (fun s=>decide (1024<s.length)) (Sum.inr ()) (Sum.inl ()) ?_ ?_,Option.bind_some]
 ·have:zjF l.l= !(l.l.any fun s=>decide (1024<s.length)):=by
   unfold zjF
   rw[List.all_eq_not_any_not]
   congr 2
   funext s
   rw[←decide_not];simp
  rw[this]
  cases(l.l.any fun s=>decide (1024<s.length))<;>rfl
 ·intro k hk
  have hw:=zba (show k<2^62 by omega)
  simp only[zdD,zbU hk,Option.bind_some,hw]
  rw[if_pos (decide_eq_true (by omega)),show decide ((1024:Int)<(l.l[k].length:Int))=decide (1024<l.l[k].length) by rw[decide_eq_decide];omega]
  split<;>rfl
 ·simp only[zdD]
  rw[if_neg (by simp)]
theorem short_list (l:List (List UInt8)) (hl:l.length≤1000):pc prog 186 [.list false (l.map D.str)]=some (.bool (zjF l)):=zxY ⟨false,l⟩ hl
def zij (n:Name):Bool:= !(n.local_==[])&&decide (n.space.length≤1024)&&decide (n.prefix_.length≤1024)&&decide (n.local_.length≤1024)&&(n.prefix_==[]|| !(n.space==[]))
theorem zoa (n:Name):pc prog 203 [zdf n]=some (.bool (zij n)):=by
 refine zLd n _ ?_
 unfold zLc zij
 rw[short_list _ (by simp),zaA (e:=D.bool),Option.bind_some]
 simp only[bor,zjF,List.all_cons,List.all_nil,Bool.and_true]
 cases(n.local_==[])<;>cases decide (n.space.length≤1024)<;>cases decide (n.prefix_.length≤1024)<;>cases decide (n.local_.length≤1024)<;>rfl
theorem zEV (n:Name):pc prog 204 [zdf n]=some (zai ⟨n.space,n.local_⟩):=zLe n _ rfl
def zIa (n:Name) (a:Attr):Bool:=a.name.space==n.space&&a.name.local_==n.local_
def zob:List Attr→List Attr→Bool
 |_,[]=>true
 |pre,a::r=>zij a.name&&decide (a.value.length≤4096)&& !(pre.any (zIa a.name))&&zob (pre++[a]) r
def zrm (l:List Attr):Bool:=decide (l.length≤64)&&zob [] l
end Go.Proofs.Ythodcjjgimeeoaa.P
