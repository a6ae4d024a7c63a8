/- Shaken copy of a longer text: what one law needs. Its conditions: none. -/
import Derived.Test.YthodcjjgimeeoaaGreatZPSpFo2
set_option linter.unusedSimpArgs false
set_option linter.unusedVariables false
set_option linter.unusedSimpArgs false
set_option linter.unusedVariables false
set_option linter.unusedSectionVars false
set_option linter.unnecessarySimpa false
namespace Go.Proofs.YthodcjjgimeeoaaGreat.P
open Go.AI
theorem zvu {k:Int} (h:zhL k=true):k=1∨k=3∨k=4∨k=7∨k=8∨k=9∨k=10∨k=11∨k=12:=by
 unfold zhL ziH zni at h
 simp only[Bool.or_eq_true,beq_iff_eq]at h
 omega
theorem zEc (n:Node) (ha:n.attrs.l.length≤2^40):pc prog 111 [zao n]=some (.bool (zlt n)):=by
 refine zOE n _ ?_
 unfold zOD zlt zkT
 simp only[zzR,zzT n.attrs ha,zpq,zsR,zsS,zap (e:=D.bool),Option.bind_some,bor,zpU,zzV]
 rw[show decide ((16384:Int)<(n.data.l.length:Int))= !(decide (n.data.l.length≤16384))from zpv n.data.l 16384,show decide ((1024:Int)<(n.public_.length:Int))= !(decide (n.public_.length≤1024))from zpv _ 1024,show decide ((1024:Int)<(n.system.length:Int))= !(decide (n.system.length≤1024))from zpv _ 1024,show decide ((1024:Int)<(n.name.local_.length:Int))= !(decide (n.name.local_.length≤1024))from zpv _ 1024]
 simp only[zFk]
 generalize decide (n.name=⟨[],[],n.name.local_⟩)=a1
 generalize decide (n.name=⟨[],[],[]⟩)=a2
 generalize (n.name.local_==[])=a3
 generalize decide (n.name.local_.length≤1024)=a4
 generalize zel n.name=a5
 generalize zkS n.attrs.l=b2
 generalize decide (n.public_.length≤1024)=b3
 generalize decide (n.system.length≤1024)=b4
 generalize decide (n.data.l.length≤16384)=b5
 generalize (n.public_==[])=b6
 generalize (n.system==[])=b7
 generalize (n.data.l.length==0)=b8
 generalize (n.kids.l.length==0)=b9
 generalize (n.attrs.l.length==0)=b10
 generalize (n.shadow==0)=b11
 generalize (n.parent==0)=b12
 generalize n.hTML=b13
 generalize (n.mode==1)=b14
 generalize (n.mode==2)=b15
 generalize (n.mode==0)=b16
 generalize n.manual=b17
 generalize (n.host==0)=b18
 generalize n.kind=k
 rcases hk:zhL k with _|_
 ·simp
 cases b3 with
 |false=>simp
 |true=>
 cases b4 with
 |false=>simp
 |true=>
 cases b5 with
 |false=>simp
 |true=>
 cases b2 with
 |false=>simp
 |true=>
 rcases zvu hk with h|h|h|h|h|h|h|h|h<;>subst h<;>simp only[ziH,zni]<;>simp only[zsV,Option.bind_some]<;>simp[znk]
 all_goals simp only[Bool.and_assoc,Bool.and_left_comm,Bool.and_comm]
theorem zlX {step:Int×Int→Option ((Int×Int)⊕Int)} {l:List Int} (a:Int) (hl:l.length≤2^40)
 (h:∀k (hk:k<l.length) (c:Int),step ((k:Int),c)=some (.inl (((k+1:Nat):Int),if(l[k]==a)=true then IntKind.wrap .i64 (c+1)else c)))
 (he:∀c,step ((l.length:Int),c)=some (.inr c)):zaL step (0,0)=some (l.count a:Int):=by
 have key:∀n k,k+n=l.length→zaL step ((k:Int),((l.take k).count a:Int))=some (l.count a:Int):=by
  intro n
  induction n with
  |zero=>
   intro k hk
   obtain rfl:k=l.length:=by omega
   rw[List.take_length];exact zau (he _)
  |succ n ih=>
   intro k hk
   have hlt:k<l.length:=by omega
   rw[zaC (h k hlt _),←ih (k+1) (by omega),List.take_succ_eq_append_getElem hlt,List.count_append]
   have hc:=(l.take k).count_le_length (a:=a)
   rw[List.length_take]at hc
   by_cases e:l[k]=a
   ·rw[if_pos (by simpa using e),w64 (by omega) (by omega),e]
    simp
   ·rw[if_neg (by simpa using e)]
    have:List.count a [l[k]]=0:=by rw[List.count_eq_zero];simpa using fun h=>e h.symm
    rw[this];rfl
 exact key l.length 0 (by omega)
theorem zpw (l:Sl Int) (a:Int) (hl:l.l.length≤2^40):pc prog 141 [.list l.n (l.l.map (D.int .i64)),.int .i64 a]=some (.int .i64 (l.l.count a)):=by
 refine zPo l a _ ?_
 unfold zPn
 rw[zlX (l:=l.l) a hl ?_ ?_];rfl
 ·intro k hk c
  have hw:=zaK (show k<2^62 by omega)
  simp only[zdR,zbd hk,Option.bind_some,hw]
  rw[if_pos (decide_eq_true (by omega))]
  split<;>rfl
 ·intro c
  simp only[zdR]
  rw[if_neg (by simp)]
theorem zEd (l:Sl Int) (a:Int) (hl:l.l.length≤2^40):pc prog 132 [.list l.n (l.l.map (D.int .i64)),.int .i64 a]=some (.bool (((l.l.count a:Int)==1))):=by
 refine zOY l a _ ?_
 unfold zOX
 rw[zlX (l:=l.l) a hl ?_ ?_];rfl
 ·intro k hk c
  have hw:=zaK (show k<2^62 by omega)
  simp only[zdO,zbd hk,Option.bind_some,hw]
  rw[if_pos (decide_eq_true (by omega))]
  split<;>rfl
 ·intro c
  simp only[zdO]
  rw[if_neg (by simp)]
def zJj (k:Int) (x:Int×Int) (c:Int):Option (Int×Int):=
 if c=1 then some (x.1+1,x.2)else if c=3∨c=4 then(if k=9 then none else some x)else if c=8∨c=7 then some x else if c=10 then(if k≠9∨0<x.1 then none else some (x.1,x.2+1))else none
def zHL (k:Int):Int×Int→List Int→Option (Int×Int)
 |x,[]=>some x
 |x,c::r=>(zJj k x c).bind fun y=>zHL k y r
def famB (f:List Node) (k:Int) (l:List Int):Bool:=
 match zHL k (0,0) (l.map fun h=>(nodeD f h).kind)with
 |none=>false
 |some x=>if k=9 then decide (x.1≤1)&&decide (x.2≤1)else true
theorem zsW {step:Int×Int×Int→Option ((Int×Int×Int)⊕((Int×Int)⊕Unit))} {l:List Int} (kd:Int→Int) (k0:Int) (hl:l.length≤2^40)
 (h:∀k (hk:k<l.length) (x:Int×Int),(0≤x.1∧x.1≤k∧0≤x.2∧x.2≤k)→step ((k:Int),x)=some (match zJj k0 x (kd l[k])with|some y=> .inl (((k+1:Nat):Int),y)|none=> .inr (.inr ())))
 (he:∀x,step ((l.length:Int),x)=some (.inr (.inl x))):zaL step (0,0,0)=some (match zHL k0 (0,0) (l.map kd)with|some y=> .inl y|none=> .inr ()):=by
 have key:∀n k,k+n=l.length→∀x:Int×Int,(0≤x.1∧x.1≤k∧0≤x.2∧x.2≤k)→zaL step ((k:Int),x)=some (match zHL k0 x ((l.drop k).map kd)with|some y=> .inl y|none=> .inr ()):=by
  intro n
  induction n with
  |zero=>
   intro k hk x _
   obtain rfl:k=l.length:=by omega
   rw[List.drop_length];exact zau (he x)
  |succ n ih=>
   intro k hk x hx
   have hlt:k<l.length:=by omega
   have h1:=h k hlt x hx
   rw[List.drop_eq_getElem_cons hlt,List.map_cons]
   unfold zHL
   rcases e:zJj k0 x (kd l[k])with _|y
   ·rw[e]at h1;rw[zau h1];rfl
   ·rw[e]at h1;rw[zaC h1,ih (k+1) (by omega) y ?_];rfl
    unfold zJj at e
    split at e
    ·cases e;dsimp only;omega
    split at e
    ·split at e
     ·cases e
     ·cases e;omega
    split at e
    ·cases e;omega
    split at e
    ·split at e
     ·cases e
     ·cases e;dsimp only;omega
    ·cases e
 exact key l.length 0 (by omega) (0,0) (by simp)
theorem zzW (f:Forest) (k:Int) (l:Sl Int) (hf:f.nodes.l.length≤2^40) (hl:l.l.length≤2^40):pc prog 143 [zaa f,.int .u8 k,.list l.n (l.l.map (D.int .i64))]=some (.bool (famB f.nodes.l k l.l)):=by
 refine zPs f k l _ ?_
 unfold zPr famB
 rw[zsW (l:=l.l) (fun h=>(nodeD f.nodes.l h).kind) k hl ?_ ?_,Option.bind_some]
 ·rcases zHL k (0,0) (l.l.map fun h=>(nodeD f.nodes.l h).kind)with _|y
  ·rfl
  ·simp only[zpU]
   by_cases h:k=9
   ·simp[h]
   ·simp[h]
 ·intro j hj x hx
  have hw:=zaK (show j<2^62 by omega)
  simp only[zdS,zbd hj,Option.bind_some,hw,zsP f _ hf,zap (e:=D.int .u8),w64 (show-9223372036854775808≤x.1+1 by omega) (by omega),w64 (show-9223372036854775808≤x.2+1 by omega) (by omega)]
  rw[if_pos (decide_eq_true (by omega))]
  generalize (nodeD f.nodes.l l.l[j]).kind=c
  unfold zJj
  by_cases h1:c=1
  ·simp[h1]
  by_cases h3:c=3
  ·by_cases h9:k=9<;>simp[h3,h9]
  by_cases h4:c=4
  ·by_cases h9:k=9<;>simp[h4,h9]
  by_cases h8:c=8
  ·simp[h8]
  by_cases h7:c=7
  ·simp[h7]
  by_cases h10:c=10
  ·by_cases h9:k=9<;>by_cases hx0:0<x.1<;>simp[h10,h9,hx0]
  simp[h1,h3,h4,h8,h7,h10]
 ·intro x
  simp only[zdS]
  rw[if_neg (by simp)]
theorem zvv (f:Forest) (n:Node) (hf:f.nodes.l.length≤2^40) (hl:n.kids.l.length≤2^40):pc prog 157 [zaa f,zao n]=some (.bool (famB f.nodes.l n.kind n.kids.l)):=by
 refine zPz f n _ ?_
 unfold zPy famB
 rw[zsW (l:=n.kids.l) (fun h=>(nodeD f.nodes.l h).kind) n.kind hl ?_ ?_,Option.bind_some]
 ·rcases zHL n.kind (0,0) (n.kids.l.map fun h=>(nodeD f.nodes.l h).kind)with _|y
  ·rfl
  ·simp only[zpU]
   rw[show decide (y.1<2)=decide (y.1≤1) by rw[decide_eq_decide];omega,show decide (y.2<2)=decide (y.2≤1) by rw[decide_eq_decide];omega]
   by_cases h:n.kind=9
   ·simp[h]
   ·simp[h]
 ·intro j hj x hx
  have hw:=zaK (show j<2^62 by omega)
  simp only[zdT,zbd hj,Option.bind_some,hw,zsQ f _ hf,zap (e:=D.int .u8),w64 (show-9223372036854775808≤x.1+1 by omega) (by omega),w64 (show-9223372036854775808≤x.2+1 by omega) (by omega)]
  rw[if_pos (decide_eq_true (by omega))]
  generalize (nodeD f.nodes.l n.kids.l[j]).kind=c
  generalize n.kind=k
  unfold zJj
  by_cases h1:c=1
  ·simp[h1]
  by_cases h3:c=3
  ·by_cases h9:k=9<;>simp[h3,h9]
  by_cases h4:c=4
  ·by_cases h9:k=9<;>simp[h4,h9]
  by_cases h8:c=8
  ·simp[h8]
  by_cases h7:c=7
  ·simp[h7]
  by_cases h10:c=10
  ·by_cases h9:k=9<;>by_cases hx0:0<x.1<;>simp[h10,h9,hx0]
  simp[h1,h3,h4,h8,h7,h10]
 ·intro x
  simp only[zdT]
  rw[if_neg (by simp)]
end Go.Proofs.YthodcjjgimeeoaaGreat.P
