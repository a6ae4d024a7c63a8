/- Shaken copy of a longer text: what one law needs. Its conditions: none. -/
import Derived.Test.YtfleilibjdgcjaaWBDecO
import Derived.Test.YtfleilibjdgcjaaWBSpLoops
set_option linter.unusedSimpArgs false
set_option linter.unusedVariables false
set_option linter.unusedSimpArgs false
set_option linter.unusedVariables false
set_option linter.unusedSectionVars false
set_option linter.unnecessarySimpa false
namespace Go.Proofs.Ytfleilibjdgcjaa.B
open Go.AI
theorem w64 {n:Int} (h1: -9223372036854775808≤n) (h2:n≤9223372036854775807):IntKind.i64.wrap n=n:=by rw[IntKind.wrap_i64];omega
theorem bor {a b:Bool}:(bif a then true else b)=(a||b):=by cases a<;>rfl
theorem zxl {a b:Bool}:(bif a then b else false)=(a&&b):=by cases a<;>rfl
def nd0:Node:=⟨0,⟨[],[],[]⟩,[],[],⟨true,[]⟩,⟨true,[]⟩,0,⟨true,[]⟩,0,0,0,0,false,false⟩
def zcw (f:List Node) (h:Int):Option Node:=if 1≤h then f[(h-1).toNat]? else none
def nodeD (f:List Node) (h:Int):Node:=(zcw f h).getD nd0
theorem zcx {f:List Node} {h:Int} {n:Node} (e:zcw f h=some n):1≤h∧h≤f.length∧f[(h-1).toNat]? =some n:=by
 unfold zcw at e
 split at e
 ·rename_i h1
  rcases Nat.lt_or_ge (h-1).toNat f.length with h2|h2
  ·exact⟨h1,by omega,e⟩
  ·rw[List.getElem?_eq_none h2]at e;cases e
 ·cases e
theorem zkf {f:List Node} {h:Int} (e:zcw f h=none):h<1∨(f.length:Int)<h:=by
 unfold zcw at e
 split at e
 ·right
  rw[List.getElem?_eq_none_iff]at e;omega
 ·left;omega
theorem zlq {f:List Node} {h:Int} (h1:1≤h) (h2:h≤f.length):∃n,zcw f h=some n:=by
 unfold zcw
 rw[if_pos h1]
 exact⟨_,List.getElem?_eq_getElem (by omega)⟩
theorem zwu {f:List Node} {k:Nat} (h:k<f.length):zcw f ((k:Int)+1)=some f[k]:=by
 unfold zcw
 rw[if_pos (by omega),show((k:Int)+1-1).toNat=k by omega,List.getElem?_eq_getElem h]
theorem zlr {f:List Node} {h:Int} {n:Node} (e:zcw f h=some n):rd f (h-1)=some n:=by
 obtain⟨h1,h2,h3⟩:=zcx e
 unfold rd
 rw[if_pos (by omega)];exact h3
theorem zsy (f:List Node) (h:Int) (hf:f.length≤2^40):(if(bif (decide (h<1))then true else(decide ((f.length:Int)<h)))=true then some (nd0,false)else(rd f (IntKind.wrap .i64 (h-1))).bind fun y3=>some (y3,true))=some (nodeD f h,(zcw f h).isSome):=by
 unfold nodeD
 rcases e:zcw f h with _|n
 ·rcases zkf e with h1|h1
  ·simp[h1]
  ·rw[bor,if_pos (by simp[h1])];rfl
 ·obtain⟨h1,h2,_⟩:=zcx e
  rw[bor,if_neg (by simp;omega),w64 (by omega) (by omega),zlr e];rfl
theorem zls (f:Forest) (h:Int) (hf:f.nodes.l.length≤2^40):pc prog 219 [zac f,.int .i64 h]=some (eT2 zap D.bool (nodeD f.nodes.l h,(zcw f.nodes.l h).isSome)):=by
 refine zJi f h _ ?_
 unfold zJh
 exact zsy f.nodes.l h hf
theorem zqo (f:Forest) (h:Int) (hf:f.nodes.l.length≤2^40):pc prog 221 [zac f,.int .i64 h]=some (.int .u8 (nodeD f.nodes.l h).kind):=by
 refine zJm f h _ ?_
 unfold zJl
 rw[zls f h hf,zav (e:=eT2 zap D.bool)];rfl
def zqp (n:Node):Int:=if n.kind==12 then n.host else n.parent
theorem zwv (n:Node):pc prog 214 [zap n]=some (.int .i64 (zqp n)):=by
 refine zIY n _ ?_
 unfold zIX zqp
 split<;>rfl
def zcC (k:Int):Bool:=k==3||k==4||k==7||k==8
def zpf (k:Int):Bool:=k==1||k==9||k==11||k==12
def zqq (k:Int):Bool:=zcC k||zpf k||k==10
def znn (k:Int):forest_trait:=⟨zqq k,zcC k,zpf k,k==1||zcC k||k==10,k==1,k==7||k==10⟩
theorem zsz (k:Int):pc prog 215 [.int .u8 k]=some (zaD (znn k)):=by
 refine zJa k _ ?_
 unfold zIZ znn zqq zcC zpf
 by_cases h1:k=1
 ·subst h1;rfl
 by_cases h3:k=3
 ·subst h3;rfl
 by_cases h4:k=4
 ·subst h4;rfl
 by_cases h8:k=8
 ·subst h8;rfl
 by_cases h7:k=7
 ·subst h7;rfl
 by_cases h10:k=10
 ·subst h10;rfl
 by_cases h9:k=9
 ·subst h9;rfl
 by_cases h11:k=11
 ·subst h11;rfl
 by_cases h12:k=12
 ·subst h12;rfl
 simp[h1,h3,h4,h8,h7,h10,h9,h11,h12]
def zjd (l:List (List UInt8)):Bool:=l.all fun s=>decide (s.length≤1024)
theorem zww (l:Sl (List UInt8)) (hl:l.l.length≤1000):pc prog 218 [.list l.n (l.l.map D.str)]=some (.bool (zjd l.l)):=by
 refine zJg l _ ?_
 unfold zJf
 rw[zif (l:=l.l) (fun s=>decide (1024<s.length)) (Sum.inr ()) (Sum.inl ()) ?_ ?_,Option.bind_some]
 ·have:zjd l.l= !(l.l.any fun s=>decide (1024<s.length)):=by
   unfold zjd
   rw[List.all_eq_not_any_not]
   congr 2
   funext s
   rw[←decide_not];simp
  rw[this]
  cases(l.l.any fun s=>decide (1024<s.length))<;>rfl
 ·intro k hk
  have hw:=zbc (show k<2^62 by omega)
  simp only[zdg,zdq hk,Option.bind_some,hw]
  rw[if_pos (decide_eq_true (by omega)),show decide ((1024:Int)<(l.l[k].length:Int))=decide (1024<l.l[k].length) by rw[decide_eq_decide];omega]
  split<;>rfl
 ·simp only[zdg]
  rw[if_neg (by simp)]
theorem short_list (l:List (List UInt8)) (hl:l.length≤1000):pc prog 218 [.list false (l.map D.str)]=some (.bool (zjd l)):=zww ⟨false,l⟩ hl
def zhG (n:Name):Bool:= !(n.local_==[])&&decide (n.space.length≤1024)&&decide (n.prefix_.length≤1024)&&decide (n.local_.length≤1024)&&(n.prefix_==[]|| !(n.space==[]))
theorem zno (n:Name):pc prog 229 [zcg n]=some (.bool (zhG n)):=by
 refine zJq n _ ?_
 unfold zJp zhG
 rw[short_list _ (by simp),zav (e:=D.bool),Option.bind_some]
 simp only[bor,zjd,List.all_cons,List.all_nil,Bool.and_true]
 cases(n.local_==[])<;>cases decide (n.space.length≤1024)<;>cases decide (n.prefix_.length≤1024)<;>cases decide (n.local_.length≤1024)<;>rfl
theorem zDa (n:Name):pc prog 230 [zcg n]=some (zag ⟨n.space,n.local_⟩):=zJr n _ rfl
def zGu (n:Name) (a:Attr):Bool:=a.name.space==n.space&&a.name.local_==n.local_
def znp:List Attr→List Attr→Bool
 |_,[]=>true
 |pre,a::r=>zhG a.name&&decide (a.value.length≤4096)&& !(pre.any (zGu a.name))&&znp (pre++[a]) r
def zqr (l:List Attr):Bool:=decide (l.length≤64)&&znp [] l
end Go.Proofs.Ytfleilibjdgcjaa.B
