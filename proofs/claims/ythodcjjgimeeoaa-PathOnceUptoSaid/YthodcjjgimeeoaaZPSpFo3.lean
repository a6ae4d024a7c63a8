/- Shaken copy of a longer text: what one law needs. Its conditions: none. -/
import Derived.Test.YthodcjjgimeeoaaZPSpFo2
set_option linter.unusedSimpArgs false
set_option linter.unusedVariables false
set_option linter.unusedSimpArgs false
set_option linter.unusedVariables false
set_option linter.unusedSectionVars false
set_option linter.unnecessarySimpa false
namespace Go.Proofs.Ythodcjjgimeeoaa.P
open Go.AI
theorem ztM {step:Int×Int→Option ((Int×Int)⊕Int)} {l:List Int} (a:Int) (hl:l.length≤2^40)
 (h:∀k (hk:k<l.length) (c:Int),step ((k:Int),c)=some (.inl (((k+1:Nat):Int),if(l[k]==a)=true then IntKind.wrap .i64 (c+1)else c)))
 (he:∀c,step ((l.length:Int),c)=some (.inr c)):zaU step (0,0)=some (l.count a:Int):=by
 have key:∀n k,k+n=l.length→zaU step ((k:Int),((l.take k).count a:Int))=some (l.count a:Int):=by
  intro n
  induction n with
  |zero=>
   intro k hk
   obtain rfl:k=l.length:=by omega
   rw[List.take_length];exact zaH (he _)
  |succ n ih=>
   intro k hk
   have hlt:k<l.length:=by omega
   rw[zaP (h k hlt _),←ih (k+1) (by omega),List.take_succ_eq_append_getElem hlt,List.count_append]
   have hc:=(l.take k).count_le_length (a:=a)
   rw[List.length_take]at hc
   by_cases e:l[k]=a
   ·rw[if_pos (by simpa using e),w64 (by omega) (by omega),e]
    simp
   ·rw[if_neg (by simpa using e)]
    have:List.count a [l[k]]=0:=by rw[List.count_eq_zero];simpa using fun h=>e h.symm
    rw[this];rfl
 exact key l.length 0 (by omega)
theorem zBJ (l:Sl Int) (a:Int) (hl:l.l.length≤2^40):pc prog 188 [.list l.n (l.l.map (D.int .i64)),.int .i64 a]=some (.bool (((l.l.count a:Int)==1))):=by
 refine zKX l a _ ?_
 unfold zKW
 rw[ztM (l:=l.l) a hl ?_ ?_];rfl
 ·intro k hk c
  have hw:=zba (show k<2^62 by omega)
  simp only[zdE,zbU hk,Option.bind_some,hw]
  rw[if_pos (decide_eq_true (by omega))]
  split<;>rfl
 ·intro c
  simp only[zdE]
  rw[if_neg (by simp)]
def zIc (k:Int) (x:Int×Int) (c:Int):Option (Int×Int):=
 if c=1 then some (x.1+1,x.2)else if c=3∨c=4 then(if k=9 then none else some x)else if c=8∨c=7 then some x else if c=10 then(if k≠9∨0<x.1 then none else some (x.1,x.2+1))else none
def zGs (k:Int):Int×Int→List Int→Option (Int×Int)
 |x,[]=>some x
 |x,c::r=>(zIc k x c).bind fun y=>zGs k y r
def famB (f:List Node) (k:Int) (l:List Int):Bool:=
 match zGs k (0,0) (l.map fun h=>(nodeD f h).kind)with
 |none=>false
 |some x=>if k=9 then decide (x.1≤1)&&decide (x.2≤1)else true
theorem zBK {step:Int×Int×Int→Option ((Int×Int×Int)⊕((Int×Int)⊕Unit))} {l:List Int} (kd:Int→Int) (k0:Int) (hl:l.length≤2^40)
 (h:∀k (hk:k<l.length) (x:Int×Int),(0≤x.1∧x.1≤k∧0≤x.2∧x.2≤k)→step ((k:Int),x)=some (match zIc k0 x (kd l[k])with|some y=> .inl (((k+1:Nat):Int),y)|none=> .inr (.inr ())))
 (he:∀x,step ((l.length:Int),x)=some (.inr (.inl x))):zaU step (0,0,0)=some (match zGs k0 (0,0) (l.map kd)with|some y=> .inl y|none=> .inr ()):=by
 have key:∀n k,k+n=l.length→∀x:Int×Int,(0≤x.1∧x.1≤k∧0≤x.2∧x.2≤k)→zaU step ((k:Int),x)=some (match zGs k0 x ((l.drop k).map kd)with|some y=> .inl y|none=> .inr ()):=by
  intro n
  induction n with
  |zero=>
   intro k hk x _
   obtain rfl:k=l.length:=by omega
   rw[List.drop_length];exact zaH (he x)
  |succ n ih=>
   intro k hk x hx
   have hlt:k<l.length:=by omega
   have h1:=h k hlt x hx
   rw[List.drop_eq_getElem_cons hlt,List.map_cons]
   unfold zGs
   rcases e:zIc k0 x (kd l[k])with _|y
   ·rw[e]at h1;rw[zaH h1];rfl
   ·rw[e]at h1;rw[zaP h1,ih (k+1) (by omega) y ?_];rfl
    unfold zIc at e
    split at e
    ·cases e;dsimp only;omega
    split at e
    ·split at e
     ·cases e
     ·cases e;omega
    split at e
    ·cases e;omega
    split at e
    ·split at e
     ·cases e
     ·cases e;dsimp only;omega
    ·cases e
 exact key l.length 0 (by omega) (0,0) (by simp)
theorem ztN (f:Forest) (n:Node) (hf:f.nodes.l.length≤2^40) (hl:n.kids.l.length≤2^40):pc prog 205 [zae f,zam n]=some (.bool (famB f.nodes.l n.kind n.kids.l)):=by
 refine zLg f n _ ?_
 unfold zLf famB
 rw[zBK (l:=n.kids.l) (fun h=>(nodeD f.nodes.l h).kind) n.kind hl ?_ ?_,Option.bind_some]
 ·rcases zGs n.kind (0,0) (n.kids.l.map fun h=>(nodeD f.nodes.l h).kind)with _|y
  ·rfl
  ·simp only[zyJ]
   rw[show decide (y.1<2)=decide (y.1≤1) by rw[decide_eq_decide];omega,show decide (y.2<2)=decide (y.2≤1) by rw[decide_eq_decide];omega]
   by_cases h:n.kind=9
   ·simp[h]
   ·simp[h]
 ·intro j hj x hx
  have hw:=zba (show j<2^62 by omega)
  simp only[zdG,zbU hj,Option.bind_some,hw,zrk f _ hf,zaA (e:=D.int .u8),w64 (show-9223372036854775808≤x.1+1 by omega) (by omega),w64 (show-9223372036854775808≤x.2+1 by omega) (by omega)]
  rw[if_pos (decide_eq_true (by omega))]
  generalize (nodeD f.nodes.l n.kids.l[j]).kind=c
  generalize n.kind=k
  unfold zIc
  by_cases h1:c=1
  ·simp[h1]
  by_cases h3:c=3
  ·by_cases h9:k=9<;>simp[h3,h9]
  by_cases h4:c=4
  ·by_cases h9:k=9<;>simp[h4,h9]
  by_cases h8:c=8
  ·simp[h8]
  by_cases h7:c=7
  ·simp[h7]
  by_cases h10:c=10
  ·by_cases h9:k=9<;>by_cases hx0:0<x.1<;>simp[h10,h9,hx0]
  simp[h1,h3,h4,h8,h7,h10]
 ·intro x
  simp only[zdG]
  rw[if_neg (by simp)]
end Go.Proofs.Ythodcjjgimeeoaa.P
