/- Shaken copy of a longer text: what one law needs. Its conditions: none. -/
import Derived.Test.YtfleilibjdgcjaaYVSpUp
import Derived.Test.YtfleilibjdgcjaaYVSpSib
import Derived.Test.YtfleilibjdgcjaaYVDecV
set_option linter.unusedSimpArgs false
set_option linter.unusedVariables false
set_option linter.unusedSimpArgs false
set_option linter.unusedVariables false
set_option linter.unusedSectionVars false
set_option linter.unnecessarySimpa false
namespace Go.Proofs.Ytfleilibjdgcjaa.V
open Go.AI
def kd (f:List Node) (h:Int):Int:=(nodeD f h).kind
def zcY (k:Int):Bool:=k==3||k==4
def zkc (f:List Node) (l:List Int) (k:Int):Nat:=(l.filter fun x=>kd f x==k).length
def zim (f:List Node) (l:List Int) (k:Int):Bool:=l.any fun x=>kd f x==k
def zgs (kids:List Int) (child:Int) (rep:Bool):List Int:=kids.filter fun k=> !(rep&&(k==child))
def zoc (kids:List Int) (child:Int):List Int:=if child=0 then[]else kids.drop ((idx kids child).toNat+1)
def zod (kids:List Int) (child:Int):List Int:=if child=0 then kids else kids.take (idx kids child).toNat
def zoe (f:List Node) (kids:List Int) (child:Int) (rep:Bool):Bool:= !(zim f (zgs kids child rep) 1)&& !(zim f (zoc kids child) 10)&&(rep||child==0|| !(kd f child==10))
def dtR (f:List Node) (kids:List Int) (child:Int) (rep:Bool):Bool:= !(zim f (zgs kids child rep) 10)&& !(zim f (zod kids child) 1)
def zAT (f:List Node) (node:Int) (kids:List Int) (child:Int) (rep:Bool):Bool:= !((kidsL f node).any fun x=>zcY (kd f x))&&(decide (zkc f (kidsL f node) 1=0)||(decide (zkc f (kidsL f node) 1=1)&&zoe f kids child rep))
def zEi (f:List Node) (parent node child:Int) (rep:Bool):Bool:=if kd f node=11 then zAT f node (kidsL f parent) child rep else if kd f node=1 then zoe f (kidsL f parent) child rep else if kd f node=10 then dtR f (kidsL f parent) child rep else true
def zeS (f:List Node) (parent node child:Int) (rep:Bool):Int:=
 if(!(zew (kd f parent))||decide (node∈upc f parent))=true then 10
 else if child≠0∧par f child≠parent then 11
 else if kd f node=9∨kd f node=12 then 10
 else if(zcY (kd f node)=true∧kd f parent=9)∨(kd f node=10∧kd f parent≠9)then 10
 else if kd f parent=9∧zEi f parent node child rep=false then 10 else 0
theorem zhV {f:List Node} {l:List Int} {k:Int}:zim f l k=decide (0<zkc f l k):=by
 unfold zim zkc
 rw[Bool.eq_iff_iff,decide_eq_true_eq,List.length_pos_iff_exists_mem,List.any_eq_true]
 simp only[List.mem_filter]
theorem zBr {f:List Node} {l:List Int} {k:Int}:zkc f l k≤l.length:=List.length_filter_le _ _
theorem zda (f:Forest) (h:Int) (hf:Fit f.nodes.l) (hh:isN f.nodes.l h):pc prog 92 [zad f,.int .i64 h]=some (.int .u8 (kd f.nodes.l h)):=by
 refine zMw f h _ ?_
 unfold P92
 rw[znZ f h hf.1 hh,zas (e:=zah)];rfl
theorem zcH (f:Forest) (l:Sl Int) (k:Int) (hf:Fit f.nodes.l) (hl:∀x∈l.l,isN f.nodes.l x) (h40:l.l.length≤2^40):pc prog 198 [zad f,.list l.n (l.l.map (D.int .i64)),.int .u8 k]=some (.int .i64 (zkc f.nodes.l l.l k:Int)):=by
 refine zLx f l k _ ?_
 unfold zLw
 have key:∀m j,j+m=l.l.length→∀n:Nat,n≤j→zaU (zcl f l k) ((n:Int),(j:Int))=some ((n+zkc f.nodes.l (l.l.drop j) k:Nat):Int):=by
  intro m
  induction m with
  |zero=>
   intro j hj n hn
   obtain rfl:j=l.l.length:=by omega
   rw[List.drop_length]
   refine zaH ?_
   simp only[zcl]
   rw[if_neg (by simp)];rfl
  |succ m ih=>
   intro j hj n hn
   have hlt:j<l.l.length:=by omega
   have hw:=zaJ (show j<2^62 by omega)
   have hwn:=zaJ (show n<2^62 by omega)
   rw[List.drop_eq_getElem_cons hlt]
   by_cases e:kd f.nodes.l l.l[j]=k
   ·rw[zaP (y:=(((n+1:Nat):Int),((j+1:Nat):Int))),ih (j+1) (by omega) (n+1) (by omega)]
    ·unfold zkc
     rw[List.filter_cons_of_pos (by simpa using e),List.length_cons]
     congr 2;omega
    ·simp only[zcl,zbA hlt,Option.bind_some,zda f _ hf (hl _ (List.getElem_mem hlt)),zas (e:=D.int .u8),hw,hwn]
     rw[if_pos (decide_eq_true (by omega)),if_pos (by simpa using e)]
   ·rw[zaP (y:=((n:Int),((j+1:Nat):Int))),ih (j+1) (by omega) n (by omega)]
    ·unfold zkc
     rw[List.filter_cons_of_neg (by simpa using e)]
    ·simp only[zcl,zbA hlt,Option.bind_some,zda f _ hf (hl _ (List.getElem_mem hlt)),zas (e:=D.int .u8),hw,hwn]
     rw[if_pos (decide_eq_true (by omega)),if_neg (by simpa using e)]
 have:=key l.l.length 0 (by omega) 0 (by omega)
 rw[show((0:Nat):Int)=0 from rfl]at this
 rw[this,List.drop_zero,Option.bind_some,Nat.zero_add]
theorem zHw {α:Type} {p q:α→Bool} {l:List α}:(l.any fun x=>p x||q x)=(l.any p||l.any q):=by
 induction l with
 |nil=>rfl
 |cons a l ih=>simp only[List.any_cons,ih];cases p a<;>cases q a<;>simp
theorem zxB (f:Forest) (l:Sl Int) (hf:Fit f.nodes.l) (hl:∀x∈l.l,isN f.nodes.l x) (h40:l.l.length≤2^40):pc prog 199 [zad f,.list l.n (l.l.map (D.int .i64))]=some (.bool (l.l.any fun x=>zcY (kd f.nodes.l x))):=by
 refine zLz f l _ ?_
 unfold zLy
 have h3:=zBr (f:=f.nodes.l) (l:=l.l) (k:=3)
 have h4:=zBr (f:=f.nodes.l) (l:=l.l) (k:=4)
 rw[zcH f l 3 hf hl h40,zcH f l 4 hf hl h40,zas (e:=D.int .i64),zas (e:=D.int .i64),Option.bind_some,Option.bind_some,w64 (by omega) (by omega)]
 unfold zcY
 rw[zHw,show(l.l.any fun x=>kd f.nodes.l x==3)=zim f.nodes.l l.l 3 from rfl,show(l.l.any fun x=>kd f.nodes.l x==4)=zim f.nodes.l l.l 4 from rfl,zhV,zhV]
 congr 1
 rw[Bool.eq_iff_iff,Bool.or_eq_true,decide_eq_true_eq,decide_eq_true_eq,decide_eq_true_eq]
 omega
theorem zpH (l:Sl Int) (x:Int) (h40:l.l.length≤2^40):∃n,pc prog 226 [.list l.n (l.l.map (D.int .i64)),.int .i64 x]=some (eSl (D.int .i64) ⟨n,zgs l.l x true⟩):=by
 have hroom:AI.roomBytes=2^46:=rfl
 have key:∀m j,j+m=l.l.length→∀acc:List Int,acc.length≤j→zaU (zcm l x) (acc,(j:Int))=some (acc++zgs (l.l.drop j) x true):=by
  intro m
  induction m with
  |zero=>
   intro j hj acc ha
   obtain rfl:j=l.l.length:=by omega
   rw[List.drop_length]
   refine zaH ?_
   simp only[zcm]
   rw[if_neg (by simp)];simp[zgs]
  |succ m ih=>
   intro j hj acc ha
   have hlt:j<l.l.length:=by omega
   have hw:=zaJ (show j<2^62 by omega)
   rw[List.drop_eq_getElem_cons hlt]
   by_cases e:l.l[j]=x
   ·rw[zaP (y:=(acc,((j+1:Nat):Int))),ih (j+1) (by omega) acc (by omega)]
    ·unfold zgs
     rw[List.filter_cons_of_neg (by simp[e])]
    ·simp only[zcm,zbA hlt,Option.bind_some,hw]
     rw[if_pos (decide_eq_true (by omega)),if_neg (by simp[e])]
   ·rw[zaP (y:=(acc++[l.l[j]],((j+1:Nat):Int))),ih (j+1) (by omega) _ (by simp;omega)]
    ·unfold zgs
     rw[List.filter_cons_of_pos (by simp[e])];simp
    ·simp only[zcm,zbA hlt,Option.bind_some,hw]
     rw[if_pos (decide_eq_true (by omega)),if_pos (by simp[e]),if_pos (by rw[hroom];omega)]
 refine⟨(zgs l.l x true).isEmpty,zLJ l x _ ?_⟩
 unfold zLI
 have:=key l.l.length 0 (by omega) [] (by simp)
 rw[show((0:Nat):Int)=0 from rfl]at this
 rw[this,List.drop_zero];rfl
theorem ztf (l:Sl Int) (x:Int) (h40:l.l.length≤2^40) (hx:x=0∨x∈l.l):∃n,pc prog 227 [.list l.n (l.l.map (D.int .i64)),.int .i64 x]=some (eSl (D.int .i64) ⟨n,zoc l.l x⟩):=by
 by_cases h0:x=0
 ·refine⟨true,zHt l x _ ?_⟩
  unfold zJo zoc
  rw[if_pos (by simp[h0]),if_pos h0]
 ·obtain⟨i,hi,e1,e2⟩:=zjV (hx.resolve_left h0)
  refine⟨l.n,zHt l x _ ?_⟩
  unfold zJo zoc
  rw[if_neg (by simp[h0]),if_neg h0,zjW l x h40,zas (e:=D.int .i64),Option.bind_some,e2,w64 (by omega) (by omega)]
  unfold cut
  rw[if_pos (by omega),Option.bind_some,List.take_of_length_le (by simp)]
  congr 2
theorem zxC (l:Sl Int) (x:Int) (h40:l.l.length≤2^40) (hx:x=0∨x∈l.l):∃n,pc prog 228 [.list l.n (l.l.map (D.int .i64)),.int .i64 x]=some (eSl (D.int .i64) ⟨n,zod l.l x⟩):=by
 by_cases h0:x=0
 ·refine⟨l.n,zHu l x _ ?_⟩
  unfold zJp zod
  rw[if_pos (by simp[h0]),if_pos h0]
 ·obtain⟨i,hi,e1,e2⟩:=zjV (hx.resolve_left h0)
  refine⟨l.n,zHu l x _ ?_⟩
  unfold zJp zod
  rw[if_neg (by simp[h0]),if_neg h0,zjW l x h40,zas (e:=D.int .i64),Option.bind_some,e2]
  unfold cut
  rw[if_pos (by omega),Option.bind_some]
  simp
section
variable {f:Forest} (hf:Fit f.nodes.l) (hr:zbK f.nodes.l) {p:Int} (hp:isN f.nodes.l p)
include hf hr hp
theorem zfE:∀x∈kidsL f.nodes.l p,isN f.nodes.l x:=fun x hx=>(zcy hr hx).2.1
theorem zxD (child:Int) (rep:Bool):∃n,((if rep=true then(dec (eSl (D.int .i64)) (pc prog 226 [.list (nodeD f.nodes.l p).kids.n ((nodeD f.nodes.l p).kids.l.map (D.int .i64)),.int .i64 child])).bind fun r3=>some r3 else some (nodeD f.nodes.l p).kids:Option (Sl Int)))=some ⟨n,zgs (kidsL f.nodes.l p) child rep⟩:=by
 cases rep with
 |true=>
  obtain⟨n,h⟩:=zpH (nodeD f.nodes.l p).kids child (zcg hf p)
  exact⟨n,by rw[if_pos rfl,h,zas (e:=eSl (D.int .i64))];rfl⟩
 |false=>exact⟨(nodeD f.nodes.l p).kids.n,by
  rw[if_neg (by simp),show zgs (kidsL f.nodes.l p) child false=kidsL f.nodes.l p by unfold zgs;exact List.filter_eq_self.2 fun x _=>by simp]
  rfl⟩
theorem zAU (child:Int) (rep:Bool) (hc:child=0∨child∈kidsL f.nodes.l p):pc prog 200 [zad f,.list (nodeD f.nodes.l p).kids.n ((nodeD f.nodes.l p).kids.l.map (D.int .i64)),.int .i64 child,.bool rep]=some (.bool (zoe f.nodes.l (kidsL f.nodes.l p) child rep)):=by
 refine zLB f (nodeD f.nodes.l p).kids child rep _ ?_
 unfold zLA
 have hk:=zcg hf p
 have hk':(kidsL f.nodes.l p).length≤2^40:=hk
 obtain⟨n,ho⟩:=zxD hf hr hp child rep
 obtain⟨n2,hb⟩:=ztf (nodeD f.nodes.l p).kids child hk hc
 replace hb:_=some (eSl (D.int .i64) ⟨n2,zoc (kidsL f.nodes.l p) child⟩):=hb
 have hol:(zgs (kidsL f.nodes.l p) child rep).length≤2^40:=Nat.le_trans (List.length_filter_le _ _) hk'
 have hoN:∀x∈zgs (kidsL f.nodes.l p) child rep,isN f.nodes.l x:=fun x hx=>zfE hf hr hp x (List.mem_filter.1 hx).1
 have hbN:∀x∈zoc (kidsL f.nodes.l p) child,isN f.nodes.l x:=fun x hx=>by
  unfold zoc at hx
  split at hx
  ·cases hx
  ·exact zfE hf hr hp x (List.mem_of_mem_drop hx)
 have hbl:(zoc (kidsL f.nodes.l p) child).length≤2^40:=by
  unfold zoc
  split
  ·simp
  ·rw[List.length_drop];omega
 rw[ho,Option.bind_some,zcH f ⟨n,zgs (kidsL f.nodes.l p) child rep⟩ 1 hf hoN hol,zas (e:=D.int .i64),Option.bind_some]
 unfold zoe
 rw[zhV,zhV]
 by_cases h1:0<zkc f.nodes.l (zgs (kidsL f.nodes.l p) child rep) 1
 ·rw[if_neg (by simp[h1]),decide_eq_true h1];rfl
 ·rw[if_pos (by simp;omega),decide_eq_false h1,hb,zas (e:=eSl (D.int .i64)),Option.bind_some,zcH f ⟨n2,zoc (kidsL f.nodes.l p) child⟩ 10 hf hbN hbl,zas (e:=D.int .i64),Option.bind_some]
  by_cases h2:0<zkc f.nodes.l (zoc (kidsL f.nodes.l p) child) 10
  ·rw[if_pos (by simp;exact h2),decide_eq_true (show 0<zkc f.nodes.l (zoc (kidsL f.nodes.l p) child) 10 from h2)];rfl
  ·rw[if_neg (by simp;have:=h2;exact Nat.eq_zero_of_not_pos this),decide_eq_false (show ¬0<zkc f.nodes.l (zoc (kidsL f.nodes.l p) child) 10 from h2),bor]
   by_cases h3:(rep||child==0)=true
   ·rw[if_neg (by rw[h3];simp),h3];rfl
   ·have h0:child≠0:=by intro e;rw[e]at h3;simp at h3
    rw[if_pos (by simp only[Bool.not_eq_true]at h3;rw[h3];rfl),zda f child hf (zfE hf hr hp _ (hc.resolve_left h0)),zas (e:=D.int .u8),Option.bind_some]
    simp only[Bool.not_eq_true]at h3
    rw[h3];rfl
theorem zHx (child:Int) (rep:Bool) (hc:child=0∨child∈kidsL f.nodes.l p):pc prog 201 [zad f,.list (nodeD f.nodes.l p).kids.n ((nodeD f.nodes.l p).kids.l.map (D.int .i64)),.int .i64 child,.bool rep]=some (.bool (dtR f.nodes.l (kidsL f.nodes.l p) child rep)):=by
 refine zLD f (nodeD f.nodes.l p).kids child rep _ ?_
 unfold zLC
 have hk:=zcg hf p
 have hk':(kidsL f.nodes.l p).length≤2^40:=hk
 obtain⟨n,ho⟩:=zxD hf hr hp child rep
 obtain⟨n2,hb⟩:=zxC (nodeD f.nodes.l p).kids child hk hc
 replace hb:_=some (eSl (D.int .i64) ⟨n2,zod (kidsL f.nodes.l p) child⟩):=hb
 have hol:(zgs (kidsL f.nodes.l p) child rep).length≤2^40:=Nat.le_trans (List.length_filter_le _ _) hk'
 have hoN:∀x∈zgs (kidsL f.nodes.l p) child rep,isN f.nodes.l x:=fun x hx=>zfE hf hr hp x (List.mem_filter.1 hx).1
 have hbN:∀x∈zod (kidsL f.nodes.l p) child,isN f.nodes.l x:=fun x hx=>by
  unfold zod at hx
  split at hx
  ·exact zfE hf hr hp x hx
  ·exact zfE hf hr hp x (List.mem_of_mem_take hx)
 have hbl:(zod (kidsL f.nodes.l p) child).length≤2^40:=by
  unfold zod
  split
  ·exact hk'
  ·rw[List.length_take];omega
 rw[ho,Option.bind_some,zcH f ⟨n,zgs (kidsL f.nodes.l p) child rep⟩ 10 hf hoN hol,zas (e:=D.int .i64),Option.bind_some]
 unfold dtR
 rw[zhV,zhV]
 by_cases h1:zkc f.nodes.l (zgs (kidsL f.nodes.l p) child rep) 10=0
 ·rw[if_pos (by simp[h1]),hb,zas (e:=eSl (D.int .i64)),Option.bind_some,zcH f ⟨n2,zod (kidsL f.nodes.l p) child⟩ 1 hf hbN hbl,zas (e:=D.int .i64),Option.bind_some,decide_eq_false (show ¬0<zkc f.nodes.l (zgs (kidsL f.nodes.l p) child rep) 10 by omega)]
  congr 1
  show(((zkc f.nodes.l (zod (kidsL f.nodes.l p) child) 1:Nat):Int)==0)=_
  rw[Bool.eq_iff_iff];simp
 ·rw[if_neg (by simpa using h1),decide_eq_true (show 0<zkc f.nodes.l (zgs (kidsL f.nodes.l p) child rep) 10 by omega)];rfl
theorem zEj (node child:Int) (rep:Bool) (hn:isN f.nodes.l node) (hc:child=0∨child∈kidsL f.nodes.l p):pc prog 161 [zad f,.int .i64 p,.int .i64 node,.int .i64 child,.bool rep]=some (.bool (zEi f.nodes.l p node child rep)):=by
 refine zLo f p node child rep _ ?_
 unfold zLn
 have hkn:=zcg hf node
 have hNn:∀x∈kidsL f.nodes.l node,isN f.nodes.l x:=fun x hx=>(zcy hr hx).2.1
 rw[znZ f p hf.1 hp,znZ f node hf.1 hn,zas (e:=zah),zas (e:=zah),Option.bind_some,Option.bind_some,zAU hf hr hp child rep hc,zHx hf hr hp child rep hc,zcH f (nodeD f.nodes.l node).kids 1 hf hNn hkn,zxB f (nodeD f.nodes.l node).kids hf hNn hkn]
 simp only[zas (e:=D.bool),zas (e:=D.int .i64),Option.bind_some]
 unfold zEi
 rw[show(nodeD f.nodes.l node).kind=kd f.nodes.l node from rfl]
 by_cases k1:kd f.nodes.l node=11
 ·rw[if_pos (by simpa using k1),if_pos k1]
  unfold zAT
  rw[show(nodeD f.nodes.l node).kids.l=kidsL f.nodes.l node from rfl]
  generalize hc1:zkc f.nodes.l (kidsL f.nodes.l node) 1=c
  generalize ((kidsL f.nodes.l node).any fun x=>zcY (kd f.nodes.l x))=t
  generalize zoe f.nodes.l (kidsL f.nodes.l p) child rep=e
  rcases c with _|_|c
  ·cases t<;>simp
  ·cases t<;>simp
  ·rw[if_neg (by simp;omega),if_neg (by simp;omega)]
   cases t<;>simp
 ·rw[if_neg (by simpa using k1),if_neg k1]
  by_cases k2:kd f.nodes.l node=1
  ·rw[if_pos (by simpa using k2),if_pos k2]
  ·rw[if_neg (by simpa using k2),if_neg k2]
   by_cases k3:kd f.nodes.l node=10
   ·rw[if_pos (by simpa using k3),if_pos k3]
   ·rw[if_neg (by simpa using k3),if_neg k3]
end
end Go.Proofs.Ytfleilibjdgcjaa.V
