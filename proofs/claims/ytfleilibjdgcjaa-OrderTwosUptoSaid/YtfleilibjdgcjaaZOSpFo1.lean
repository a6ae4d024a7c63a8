/- Shaken copy of a longer text: what one law needs. Its conditions: none. -/
import Derived.Test.YtfleilibjdgcjaaZODecO
import Derived.Test.YtfleilibjdgcjaaZOSpLoops
set_option linter.unusedSimpArgs false
set_option linter.unusedVariables false
set_option linter.unusedSimpArgs false
set_option linter.unusedVariables false
set_option linter.unusedSectionVars false
set_option linter.unnecessarySimpa false
namespace Go.Proofs.Ytfleilibjdgcjaa.O
open Go.AI
theorem w64 {n:Int} (h1: -9223372036854775808≤n) (h2:n≤9223372036854775807):IntKind.i64.wrap n=n:=by rw[IntKind.wrap_i64];omega
theorem bor {a b:Bool}:(bif a then true else b)=(a||b):=by cases a<;>rfl
theorem zqf {a b:Bool}:(bif a then b else false)=(a&&b):=by cases a<;>rfl
def nd0:Node:=⟨0,⟨[],[],[]⟩,[],[],⟨true,[]⟩,⟨true,[]⟩,0,⟨true,[]⟩,0,0,0,0,false,false⟩
def zbV (f:List Node) (h:Int):Option Node:=if 1≤h then f[(h-1).toNat]? else none
def nodeD (f:List Node) (h:Int):Node:=(zbV f h).getD nd0
theorem zce {f:List Node} {h:Int} {n:Node} (e:zbV f h=some n):1≤h∧h≤f.length∧f[(h-1).toNat]? =some n:=by
 unfold zbV at e
 split at e
 ·rename_i h1
  rcases Nat.lt_or_ge (h-1).toNat f.length with h2|h2
  ·exact⟨h1,by omega,e⟩
  ·rw[List.getElem?_eq_none h2]at e;cases e
 ·cases e
theorem zjZ {f:List Node} {h:Int} (e:zbV f h=none):h<1∨(f.length:Int)<h:=by
 unfold zbV at e
 split at e
 ·right
  rw[List.getElem?_eq_none_iff]at e;omega
 ·left;omega
theorem zin {f:List Node} {h:Int} (h1:1≤h) (h2:h≤f.length):∃n,zbV f h=some n:=by
 unfold zbV
 rw[if_pos h1]
 exact⟨_,List.getElem?_eq_getElem (by omega)⟩
theorem znf {f:List Node} {k:Nat} (h:k<f.length):zbV f ((k:Int)+1)=some f[k]:=by
 unfold zbV
 rw[if_pos (by omega),show((k:Int)+1-1).toNat=k by omega,List.getElem?_eq_getElem h]
theorem zhn {f:List Node} {h:Int} {n:Node} (e:zbV f h=some n):rd f (h-1)=some n:=by
 obtain⟨h1,h2,h3⟩:=zce e
 unfold rd
 rw[if_pos (by omega)];exact h3
theorem zka (f:List Node) (h:Int) (hf:f.length≤2^40):(if(bif (decide (h<1))then true else(decide ((f.length:Int)<h)))=true then some (nd0,false)else(rd f (IntKind.wrap .i64 (h-1))).bind fun y3=>some (y3,true))=some (nodeD f h,(zbV f h).isSome):=by
 unfold nodeD
 rcases e:zbV f h with _|n
 ·rcases zjZ e with h1|h1
  ·simp[h1]
  ·rw[bor,if_pos (by simp[h1])];rfl
 ·obtain⟨h1,h2,_⟩:=zce e
  rw[bor,if_neg (by simp;omega),w64 (by omega) (by omega),zhn e];rfl
theorem zgB (f:Forest) (h:Int) (hf:f.nodes.l.length≤2^40):pc prog 31 [zae f,.int .i64 h]=some (eT2 zai D.bool (nodeD f.nodes.l h,(zbV f.nodes.l h).isSome)):=by
 refine zMN f h _ ?_
 unfold P31
 exact zka f.nodes.l h hf
theorem zln (f:Forest) (h:Int) (hf:f.nodes.l.length≤2^40):pc prog 219 [zae f,.int .i64 h]=some (eT2 zai D.bool (nodeD f.nodes.l h,(zbV f.nodes.l h).isSome)):=by
 refine zLq f h _ ?_
 unfold zLp
 exact zka f.nodes.l h hf
theorem zqg (f:Forest) (h:Int) (hf:f.nodes.l.length≤2^40):pc prog 206 [zae f,.int .i64 h]=some (.int .u8 (nodeD f.nodes.l h).kind):=by
 refine zKW f h _ ?_
 unfold zKV
 rw[zgB f h hf,zas (e:=eT2 zai D.bool)];rfl
theorem zqh (f:Forest) (h:Int) (hf:f.nodes.l.length≤2^40):pc prog 221 [zae f,.int .i64 h]=some (.int .u8 (nodeD f.nodes.l h).kind):=by
 refine zLu f h _ ?_
 unfold zLt
 rw[zln f h hf,zas (e:=eT2 zai D.bool)];rfl
def zkb (n:Node):Int:=if n.kind==12 then n.host else n.parent
theorem zwx (n:Node):pc prog 208 [zai n]=some (.int .i64 (zkb n)):=by
 refine zLa n _ ?_
 unfold zKZ zkb
 split<;>rfl
theorem zwy (n:Node):pc prog 214 [zai n]=some (.int .i64 (zkb n)):=by
 refine zLg n _ ?_
 unfold zLf zkb
 split<;>rfl
def zho (k:Int):Bool:=k==3||k==4||k==7||k==8
def zlo (k:Int):Bool:=k==1||k==9||k==11||k==12
theorem zqi (k:Int):pc prog 115 [.int .u8 k]=some (.bool (zho k)):=by
 refine zKe k _ ?_
 unfold zKd zho
 simp only[bor]
theorem zqj (k:Int):pc prog 73 [.int .u8 k]=some (.bool (zlo k)):=by
 refine zMX k _ ?_
 unfold P73 zlo
 simp only[bor]
def zgC (k:Int):Bool:=zho k||zlo k||k==10
theorem zwz (k:Int):pc prog 202 [.int .u8 k]=some (.bool (zgC k)):=by
 refine zKO k _ ?_
 unfold zKN zgC
 simp only[zqi,zqj,zas (e:=D.bool),Option.bind_some,bor]
 cases zho k<;>rfl
def zng (k:Int):forest_trait:=⟨zgC k,zho k,zlo k,k==1||zho k||k==10,k==1,k==7||k==10⟩
theorem zsq (k:Int):pc prog 215 [.int .u8 k]=some (zaC (zng k)):=by
 refine zLi k _ ?_
 unfold zLh zng zgC zho zlo
 by_cases h1:k=1
 ·subst h1;rfl
 by_cases h3:k=3
 ·subst h3;rfl
 by_cases h4:k=4
 ·subst h4;rfl
 by_cases h8:k=8
 ·subst h8;rfl
 by_cases h7:k=7
 ·subst h7;rfl
 by_cases h10:k=10
 ·subst h10;rfl
 by_cases h9:k=9
 ·subst h9;rfl
 by_cases h11:k=11
 ·subst h11;rfl
 by_cases h12:k=12
 ·subst h12;rfl
 simp[h1,h3,h4,h8,h7,h10,h9,h11,h12]
def zjh (l:List (List UInt8)):Bool:=l.all fun s=>decide (s.length≤1024)
theorem zwA (l:Sl (List UInt8)) (hl:l.l.length≤1000):pc prog 218 [.list l.n (l.l.map D.str)]=some (.bool (zjh l.l)):=by
 refine zLo l _ ?_
 unfold zLn
 rw[zim (l:=l.l) (fun s=>decide (1024<s.length)) (Sum.inr ()) (Sum.inl ()) ?_ ?_,Option.bind_some]
 ·have:zjh l.l= !(l.l.any fun s=>decide (1024<s.length)):=by
   unfold zjh
   rw[List.all_eq_not_any_not]
   congr 2
   funext s
   rw[←decide_not];simp
  rw[this]
  cases(l.l.any fun s=>decide (1024<s.length))<;>rfl
 ·intro k hk
  have hw:=zaY (show k<2^62 by omega)
  simp only[zdl,zbU hk,Option.bind_some,hw]
  rw[if_pos (decide_eq_true (by omega)),show decide ((1024:Int)<(l.l[k].length:Int))=decide (1024<l.l[k].length) by rw[decide_eq_decide];omega]
  split<;>rfl
 ·simp only[zdl]
  rw[if_neg (by simp)]
theorem short_list (l:List (List UInt8)) (hl:l.length≤1000):pc prog 218 [.list false (l.map D.str)]=some (.bool (zjh l)):=zwA ⟨false,l⟩ hl
def zdu (n:Name):Bool:= !(n.local_==[])&&decide (n.space.length≤1024)&&decide (n.prefix_.length≤1024)&&decide (n.local_.length≤1024)&&(n.prefix_==[]|| !(n.space==[]))
theorem zoW (s:List UInt8) (k:Nat):decide ((s.length:Int)≤(k:Int))=decide (s.length≤k):=by rw[decide_eq_decide];omega
theorem znh (n:Name):pc prog 204 [zbH n]=some (.bool (zdu n)):=by
 refine zKS n _ ?_
 unfold zKR zdu
 have e:=zoW n.space 1024
 have e2:=zoW n.prefix_ 1024
 have e3:=zoW n.local_ 1024
 simp only[bor,zqf]
 rw[show decide ((n.space.length:Int)≤1024)=decide (n.space.length≤1024)from e,show decide ((n.prefix_.length:Int)≤1024)=decide (n.prefix_.length≤1024)from e2,show decide ((n.local_.length:Int)≤1024)=decide (n.local_.length≤1024)from e3]
 cases(!(n.local_==[])&&decide (n.space.length≤1024)&&decide (n.prefix_.length≤1024)&&decide (n.local_.length≤1024))<;>rfl
theorem zni (n:Name):pc prog 229 [zbH n]=some (.bool (zdu n)):=by
 refine zLy n _ ?_
 unfold zLx zdu
 rw[short_list _ (by simp),zas (e:=D.bool),Option.bind_some]
 simp only[bor,zjh,List.all_cons,List.all_nil,Bool.and_true]
 cases(n.local_==[])<;>cases decide (n.space.length≤1024)<;>cases decide (n.prefix_.length≤1024)<;>cases decide (n.local_.length≤1024)<;>rfl
theorem zDb (n:Name):pc prog 230 [zbH n]=some (zah ⟨n.space,n.local_⟩):=zLz n _ rfl
def zhp (n:Name) (a:Attr):Bool:=a.name.space==n.space&&a.name.local_==n.local_
def zgD:List Attr→List Attr→Bool
 |_,[]=>true
 |pre,a::r=>zdu a.name&&decide (a.value.length≤4096)&& !(pre.any (zhp a.name))&&zgD (pre++[a]) r
def zji (l:List Attr):Bool:=decide (l.length≤64)&&zgD [] l
theorem zzZ (l:Sl Attr) (n:Name) (hl:l.l.length≤2^40):pc prog 211 [.list l.n (l.l.map zaJ),zbH n]=some (.int .i64 (match l.l.findIdx? (zhp n)with|some k=>(k:Int)|none=> -1)):=by
 refine zLc l n _ ?_
 unfold zLb
 rw[zdQ (l:=l.l) (zhp n) (fun k=>Sum.inr (k:Int)) (Sum.inl ()) ?_ ?_,Option.bind_some]
 ·rcases List.findIdx? (zhp n) l.l with _|k<;>rfl
 ·intro k hk
  have hw:=zaY (show k<2^62 by omega)
  simp only[zdj,zbU hk,Option.bind_some,hw,zqf]
  rw[if_pos (decide_eq_true (by omega))]
  show(if zhp n l.l[k]=true then _ else _)=_
  split<;>rfl
 ·simp only[zdj]
  rw[if_neg (by simp)]
theorem zsr {step:Int→Option (Int⊕(Unit⊕Unit))} {l:List Attr} (h:∀k (hk:k<l.length),step (k:Int)=some (if(zdu l[k].name&&decide (l[k].value.length≤4096)&& !((l.take k).any (zhp l[k].name)))=true then .inl ((k+1:Nat):Int)else .inr (.inr ()))) (he:step (l.length:Int)=some (.inr (.inl ()))):zaP step 0=some (if zgD [] l=true then .inl ()else .inr ()):=by
 have key:∀n k,k+n=l.length→zaP step (k:Int)=some (if zgD (l.take k) (l.drop k)=true then .inl ()else .inr ()):=by
  intro n
  induction n with
  |zero=>
   intro k hk
   obtain rfl:k=l.length:=by omega
   rw[List.drop_length];exact zaD he
  |succ n ih=>
   intro k hk
   have hl:k<l.length:=by omega
   have h1:=h k hl
   rw[List.drop_eq_getElem_cons hl]
   unfold zgD
   by_cases hp:(zdu l[k].name&&decide (l[k].value.length≤4096)&& !((l.take k).any (zhp l[k].name)))=true
   ·rw[if_pos hp]at h1
    rw[zaQ h1,ih (k+1) (by omega),hp,Bool.true_and,List.take_succ_eq_append_getElem hl]
   ·rw[if_neg hp]at h1
    rw[zaD h1]
    simp only[Bool.not_eq_true]at hp
    rw[hp];simp
 exact key l.length 0 (by omega)
theorem zwB (l:Sl Attr) (hl:l.l.length≤2^40):pc prog 203 [.list l.n (l.l.map zaJ)]=some (.bool (zji l.l)):=by
 refine zKQ l _ ?_
 unfold zKP zji
 by_cases h64:64<l.l.length
 ·rw[if_pos (decide_eq_true (by omega)),decide_eq_false (by omega)];rfl
 ·rw[if_neg (by simp;omega),decide_eq_true (by omega)]
  rw[zsr (l:=l.l) ?_ ?_,Option.bind_some]
  ·cases zgD [] l.l<;>rfl
  ·intro k hk
   have hw:=zaY (show k<2^62 by omega)
   have hf:=zzZ ⟨l.n,l.l.take k⟩ l.l[k].name (by simp only[List.length_take];omega)
   simp only at hf
   have hc:cut l.l 0 (k:Int)=some (l.l.take k):=by
    unfold cut;rw[if_pos (by omega)];simp
   simp only[zdg,zbU hk,Option.bind_some,hw,znh,zas (e:=D.bool),hc,hf,zas (e:=D.int .i64),bor]
   rw[if_pos (decide_eq_true (by omega)),show decide ((4096:Int)<(l.l[k].value.length:Int))= !(decide (l.l[k].value.length≤4096)) by rw[←decide_not,decide_eq_decide];omega]
   have hfi:decide (0≤(match(l.l.take k).findIdx? (zhp l.l[k].name)with|some j=>(j:Int)|none=> -1))=(l.l.take k).any (zhp l.l[k].name):=by
    rcases hx:(l.l.take k).findIdx? (zhp l.l[k].name)with _|j
    ·rw[List.findIdx?_eq_none_iff]at hx
     have:(l.l.take k).any (zhp l.l[k].name)=false:=by rw[List.any_eq_false];simpa using hx
     rw[this];rfl
    ·rw[List.findIdx?_eq_some_iff_getElem]at hx
     obtain⟨g1,g2,-⟩:=hx
     show decide ((0:Int)≤(j:Int))=_
     rw[decide_eq_true (by omega)]
     exact(List.any_eq_true.2 ⟨_,List.getElem_mem g1,g2⟩).symm
   rw[hfi]
   cases zdu l.l[k].name<;>cases decide (l.l[k].value.length≤4096)<;>cases(l.l.take k).any (zhp l.l[k].name)<;>rfl
  ·simp only[zdg]
   rw[if_neg (by simp)]
end Go.Proofs.Ytfleilibjdgcjaa.O
