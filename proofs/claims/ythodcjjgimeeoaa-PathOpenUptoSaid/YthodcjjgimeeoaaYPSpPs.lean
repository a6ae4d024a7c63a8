/- Shaken copy of a longer text: what one law needs. Its conditions: none. -/
import Derived.Test.YthodcjjgimeeoaaYPDecQ
import Derived.Test.YthodcjjgimeeoaaYPSpFoA
set_option linter.unusedSimpArgs false
set_option linter.unusedVariables false
set_option linter.unusedSimpArgs false
set_option linter.unusedVariables false
set_option linter.unusedSectionVars false
set_option linter.unnecessarySimpa false
namespace Go.Proofs.Ythodcjjgimeeoaa.P
open Go.AI
def zeK (b:Bool) (c:Int):Int:=if b=true then IntKind.wrap .i64 (c+1)else c
def zsN (b:Bool) (c:Int):Int:=if b=true then IntKind.wrap .i64 (c-1)else c
def mn1 (b:Bool) (m c:Int):Int:=if b=true then min m (IntKind.wrap .i64 (c-1))else m
def znr (b:Bool) (x:Int):List Int:=if b=true then[x]else[]
theorem zgF (b:Bool) (x:Int):(znr b x).length≤1:=by cases b<;>simp[znr]
theorem zqs {b:Bool} {x:Int} {l t:List Int} (h:l.Sublist t):(znr b x++l).Sublist (x::t):=by
 cases b
 ·exact List.Sublist.cons _ h
 ·exact List.Sublist.cons_cons _ h
def goA:Int→Int→List Step→List Int
 |_,_,[]=>[]
 |c,m,s::r=>znr (decide (zeK s.closed c≤m)) s.item++goA (zsN s.slot (zeK s.closed c)) (mn1 s.slot m (zeK s.closed c)) r
def goB:Int→Int→List Step→List Int
 |_,_,[]=>[]
 |c,m,s::r=>znr (decide (zeK s.slot c≤m)) s.item++goB (zsN s.closed (zeK s.slot c)) (mn1 s.closed m (zeK s.slot c)) r
theorem zwY:∀(l:List Step) (c m:Int),(goA c m l).length≤l.length
 |[],_,_=>Nat.le_refl _
 |s::r,c,m=>by
  have h1:=zwY r (zsN s.slot (zeK s.closed c)) (mn1 s.slot m (zeK s.closed c))
  have h2:=zgF (decide (zeK s.closed c≤m)) s.item
  rw[goA,List.length_append,List.length_cons];omega
theorem zwZ:∀(l:List Step) (c m:Int),(goA c m l).Sublist (l.map (·.item))
 |[],_,_=>List.Sublist.refl _
 |s::r,c,m=>zqs (zwZ r _ _)
theorem zxa:∀(l:List Step) (c m:Int),(goB c m l).Sublist (l.map (·.item))
 |[],_,_=>List.Sublist.refl _
 |s::r,c,m=>zqs (zxa r _ _)
def zcY (s:Step):Bool:= !s.closed&& !s.slot
theorem zqt:∀(l:List Step) (c:Int),l.all zcY=true→goA c c l=l.map (·.item)
 |[],_,_=>rfl
 |s::r,c,h=>by
  rw[List.all_cons,Bool.and_eq_true]at h
  have h1:s.closed=false∧s.slot=false:=by simpa[zcY]using h.1
  rw[goA,h1.1,h1.2]
  show znr (decide (c≤c)) s.item++goA c c r=_
  rw[zqt r c h.2,decide_eq_true (Int.le_refl c)];rfl
theorem zqu:∀(l:List Step) (c:Int),l.all zcY=true→goB c c l=l.map (·.item)
 |[],_,_=>rfl
 |s::r,c,h=>by
  rw[List.all_cons,Bool.and_eq_true]at h
  have h1:s.closed=false∧s.slot=false:=by simpa[zcY]using h.1
  rw[goB,h1.1,h1.2]
  show znr (decide (c≤c)) s.item++goB c c r=_
  rw[zqu r c h.2,decide_eq_true (Int.le_refl c)];rfl
section
variable (l:Sl Step) (hl:l.l.length≤4096)
include hl
theorem zAQ (at_:Nat):∀k,k≤l.l.length→∀h,∃h',zaR (zbJ l (at_:Int)) (h,(k:Int)-1)=some h'∧(l.l.all zcY=true→h'=h):=by
 intro k
 induction k with
 |zero=>
  intro _ h
  refine⟨h,zaB ?_,fun _=>rfl⟩
  simp only[zbJ]
  rw[if_neg (by simp;omega)]
 |succ k ih=>
  intro hk h
  have hlt:k<l.l.length:=by omega
  have e1:((k+1:Nat):Int)-1=(k:Int):=by omega
  have hw:IntKind.wrap .i64 ((k:Int)-1)=(k:Int)-1:=w64 (by omega) (by omega)
  rw[e1]
  by_cases hat:(at_:Int)≤(k:Int)
  ·have hop:l.l.all zcY=true→l.l[k].closed=false∧l.l[k].slot=false:=fun ho=>by
    have:=List.all_eq_true.1 ho _ (List.getElem_mem hlt)
    simpa[zcY]using this
   have hstep:∃h1,zbJ l (at_:Int) (h,(k:Int))=some (.inl (h1,(k:Int)-1))∧(l.l.all zcY=true→h1=h):=by
    simp only[zbJ,zbi hlt,Option.bind_some,hw]
    rw[if_pos (decide_eq_true hat)]
    by_cases ha:(at_:Int)<(k:Int)
    ·refine⟨zsN l.l[k].slot (zeK l.l[k].closed h),?_,fun ho=>by rw[(hop ho).1,(hop ho).2];rfl⟩
     rw[decide_eq_true ha]
     cases l.l[k].closed<;>cases l.l[k].slot<;>rfl
    ·refine⟨zeK l.l[k].closed h,?_,fun ho=>by rw[(hop ho).1];rfl⟩
     rw[decide_eq_false ha]
     cases l.l[k].closed<;>rfl
   obtain⟨h1,g1,g2⟩:=hstep
   obtain⟨h',g3,g4⟩:=ih (by omega) h1
   exact⟨h',by rw[zaH g1];exact g3,fun ho=>(g4 ho).trans (g2 ho)⟩
  ·refine⟨h,zaB ?_,fun _=>rfl⟩
   simp only[zbJ]
   rw[if_neg (by simpa using hat)]
theorem zxb (at_ h0:Int):∀k,k≤l.l.length→∀(c m:Int) (acc:List Int),acc.length+k≤4096→∃v,zaR (zcF l at_ h0) (c,m,(k:Int)-1,acc)=some (acc++goA c m (l.l.take k).reverse,v):=by
 have hroom:AI.roomBytes=2^46:=rfl
 intro k
 induction k with
 |zero=>
  intro _ c m acc _
  refine⟨⟨c,m⟩,zaB ?_⟩
  simp only[zcF]
  rw[if_neg (by simp)]
  simp[goA]
 |succ k ih=>
  intro hk c m acc ha
  have hlt:k<l.l.length:=by omega
  have e1:((k+1:Nat):Int)-1=(k:Int):=by omega
  have hw:IntKind.wrap .i64 ((k:Int)-1)=(k:Int)-1:=w64 (by omega) (by omega)
  rw[e1,List.take_succ_eq_append_getElem hlt,List.reverse_append,List.reverse_singleton,List.singleton_append]
  have hstep:zcF l at_ h0 (c,m,(k:Int),acc)=some (.inl ((zsN l.l[k].slot (zeK l.l[k].closed c)),(mn1 l.l[k].slot m (zeK l.l[k].closed c)),(k:Int)-1,acc++(znr (decide (zeK l.l[k].closed c≤m)) l.l[k].item))):=by
   simp only[zcF,zbi hlt,Option.bind_some,hw]
   rw[if_pos (decide_eq_true (by omega))]
   have hr:(acc.length+1)*8≤AI.roomBytes:=by rw[hroom];omega
   unfold znr mn1 zsN zeK
   cases l.l[k].closed<;>cases l.l[k].slot<;>simp only[Bool.false_eq_true,if_false,if_true,Option.bind_some,hr]<;>split<;>simp
  obtain⟨v,hv⟩:=ih (by omega) (zsN l.l[k].slot (zeK l.l[k].closed c)) (mn1 l.l[k].slot m (zeK l.l[k].closed c)) (acc++(znr (decide (zeK l.l[k].closed c≤m)) l.l[k].item)) (by have:=zgF (decide (zeK l.l[k].closed c≤m)) l.l[k].item;rw[List.length_append];omega)
  refine⟨v,?_⟩
  rw[zaH hstep,hv,goA,List.append_assoc]
theorem zAR (h0 at_:Int):∀k,k≤l.l.length→∀(c m:Int) (acc:List Int),acc.length+k≤4096→zaR (zcH l at_ h0) (m,(k:Int)-1,acc,c)=some ((goA c m (l.l.take k).reverse).reverse++acc):=by
 have hroom:AI.roomBytes=2^46:=rfl
 intro k
 induction k with
 |zero=>
  intro _ c m acc _
  refine zaB ?_
  simp only[zcH]
  rw[if_neg (by simp)]
  simp[goA]
 |succ k ih=>
  intro hk c m acc ha
  have hlt:k<l.l.length:=by omega
  have e1:((k+1:Nat):Int)-1=(k:Int):=by omega
  have hw:IntKind.wrap .i64 ((k:Int)-1)=(k:Int)-1:=w64 (by omega) (by omega)
  rw[e1,List.take_succ_eq_append_getElem hlt,List.reverse_append,List.reverse_singleton,List.singleton_append]
  have hstep:zcH l at_ h0 (m,(k:Int),acc,c)=some (.inl ((mn1 l.l[k].slot m (zeK l.l[k].closed c)),(k:Int)-1,(znr (decide (zeK l.l[k].closed c≤m)) l.l[k].item)++acc,(zsN l.l[k].slot (zeK l.l[k].closed c)))):=by
   simp only[zcH,zbi hlt,Option.bind_some,hw]
   rw[if_pos (decide_eq_true (by omega))]
   have hr:([l.l[k].item].length+acc.length)*8≤AI.roomBytes:=by rw[hroom];simp;omega
   unfold znr mn1 zsN zeK
   by_cases hn:acc=[]
   ·subst hn
    cases l.l[k].closed<;>cases l.l[k].slot<;>simp only[Bool.false_eq_true,if_false,if_true,Option.bind_some]<;>split<;>simp
   ·cases l.l[k].closed<;>cases l.l[k].slot<;>simp only[Bool.false_eq_true,if_false,if_true,Option.bind_some,hr,if_neg hn]<;>split<;>simp
  rw[zaH hstep,ih (by omega) _ _ _ (by have:=zgF (decide (zeK l.l[k].closed c≤m)) l.l[k].item;rw[List.length_append];omega),goA,List.reverse_append]
  cases decide (zeK l.l[k].closed c≤m)<;>simp[znr]
theorem zDD (q:List Step) (hq:q.length≤4096):∀n k,k+n=q.length→∀(c m:Int) (acc:List Int),acc.length+n≤2^40→zaR (zcG l q) (c,m,acc,(k:Int))=some (acc++goB c m (q.drop k)):=by
 have hroom:AI.roomBytes=2^46:=rfl
 intro n
 induction n with
 |zero=>
  intro k hk c m acc _
  obtain rfl:k=q.length:=by omega
  rw[List.drop_length]
  refine zaB ?_
  simp only[zcG]
  rw[if_neg (by simp)]
  simp[goB]
 |succ n ih=>
  intro k hk c m acc ha
  have hlt:k<q.length:=by omega
  have hw:=zaU (show k<2^62 by omega)
  rw[List.drop_eq_getElem_cons hlt]
  have hr:(acc.length+1)*8≤AI.roomBytes:=by rw[hroom];omega
  have hstep:zcG l q (c,m,acc,(k:Int))=some (.inl ((zsN q[k].closed (zeK q[k].slot c)),(mn1 q[k].closed m (zeK q[k].slot c)),acc++(znr (decide (zeK q[k].slot c≤m)) q[k].item),((k+1:Nat):Int))):=by
   simp only[zcG,zbi hlt,Option.bind_some,hw]
   rw[if_pos (decide_eq_true (by omega))]
   unfold znr mn1 zsN zeK
   cases q[k].closed<;>cases q[k].slot<;>simp only[Bool.false_eq_true,if_false,if_true,Option.bind_some,hr]<;>split<;>simp
  rw[zaH hstep,ih (k+1) (by omega) _ _ _ (by have:=zgF (decide (zeK q[k].slot c≤m)) q[k].item;rw[List.length_append];omega),goB,List.append_assoc]
theorem zGD:∀n k,k+n=l.l.length→∀(c m:Int) (acc:List Int),acc.length+n≤2^40→zaR (zcI l) (m,acc,(k:Int),c)=some (acc++goB c m (l.l.drop k)):=by
 have hroom:AI.roomBytes=2^46:=rfl
 intro n
 induction n with
 |zero=>
  intro k hk c m acc _
  obtain rfl:k=l.l.length:=by omega
  rw[List.drop_length]
  refine zaB ?_
  simp only[zcI]
  rw[if_neg (by simp)]
  simp[goB]
 |succ n ih=>
  intro k hk c m acc ha
  have hlt:k<l.l.length:=by omega
  have hw:=zaU (show k<2^62 by omega)
  rw[List.drop_eq_getElem_cons hlt]
  have hr:(acc.length+1)*8≤AI.roomBytes:=by rw[hroom];omega
  have hstep:zcI l (m,acc,(k:Int),c)=some (.inl ((mn1 l.l[k].closed m (zeK l.l[k].slot c)),acc++(znr (decide (zeK l.l[k].slot c≤m)) l.l[k].item),((k+1:Nat):Int),(zsN l.l[k].closed (zeK l.l[k].slot c)))):=by
   simp only[zcI,zbi hlt,Option.bind_some,hw]
   rw[if_pos (decide_eq_true (by omega))]
   unfold znr mn1 zsN zeK
   cases l.l[k].closed<;>cases l.l[k].slot<;>simp only[Bool.false_eq_true,if_false,if_true,Option.bind_some,hr]<;>split<;>simp
  rw[zaH hstep,ih (k+1) (by omega) _ _ _ (by have:=zgF (decide (zeK l.l[k].slot c≤m)) l.l[k].item;rw[List.length_append];omega),goB,List.append_assoc]
end
theorem zDE (l:Sl Step) (a:Int):zec l a=zbJ l a:=by
 funext x
 simp only[zec,zbJ]
 by_cases h:a≤x.2
 ·rw[if_pos (decide_eq_true h),if_pos (decide_eq_true h)]
  cases rd l.l x.2 with
  |none=>rfl
  |some y=>
   simp only[Option.bind_some]
   by_cases h2:a<x.2
   ·have e:(x.2==a)=false:=by simp;omega
    rw[decide_eq_true h2,e]
    cases y.closed<;>cases y.slot<;>rfl
   ·have e:(x.2==a)=true:=by simp;omega
    rw[decide_eq_false h2,e]
    cases y.closed<;>cases y.slot<;>rfl
 ·rw[if_neg (by simpa using h),if_neg (by simpa using h)]
def zju (l:List Step) (at_:Nat) (h:Int) (it:Int):List Int:=(goA h h (l.take at_).reverse).reverse++[it]++goB h h (l.drop (at_+1))
theorem zns (l:Sl Step) (a:Int) (ho: -9223372036854775808≤a∧a≤9223372036854775807):
 (4096<l.l.length∧P35 l a=some (⟨true,[]⟩,3)∧P36 l a=some (⟨true,[]⟩,3))∨
 ((a<0∨(l.l.length:Int)≤a)∧P35 l a=some (⟨true,[]⟩,2)∧P36 l a=some (⟨true,[]⟩,2))∨
 ∃(k:Nat) (hk:k<l.l.length) (h:Int),a=(k:Int)∧l.l.length≤4096∧(l.l.all zcY=true→h=0)∧P35 l a=some (⟨false,zju l.l k h l.l[k].item⟩,0)∧P36 l a=some (⟨false,zju l.l k h l.l[k].item⟩,0):=by
 by_cases h1:4096<l.l.length
 ·left
  refine⟨h1,?_,?_⟩
  ·unfold P35
   rw[if_pos (decide_eq_true (by omega))]
  ·unfold P36
   rw[if_pos (decide_eq_true (by omega))]
 right
 by_cases h2:a<0∨(l.l.length:Int)≤a
 ·left
  have e:(bif (decide (a<0))then true else(decide ((l.l.length:Int)≤a)))=true:=by
   rcases h2 with h|h
   ·rw[decide_eq_true h];rfl
   ·rw[decide_eq_true h];cases decide (a<0)<;>rfl
  refine⟨h2,?_,?_⟩
  ·unfold P35
   rw[if_neg (by simp;omega),if_pos e]
  ·unfold P36
   rw[if_neg (by simp;omega),if_pos e]
 right
 have hroom:AI.roomBytes=2^46:=rfl
 obtain⟨k,rfl⟩:∃k:Nat,a=(k:Int):=⟨a.toNat,by omega⟩
 have hk:k<l.l.length:=by omega
 have e:¬((bif (decide ((k:Int)<0))then true else(decide ((l.l.length:Int)≤(k:Int))))=true):=by
  rw[decide_eq_false (by omega),decide_eq_false (by omega)];simp
 obtain⟨h,g1,g2⟩:=zAQ l (by omega) k l.l.length (Nat.le_refl _) 0
 obtain⟨v,g3⟩:=zxb l (by omega) (k:Int) h k (by omega) h h [] (by simp;omega)
 have g4:=zAR l (by omega) h (k:Int) k (by omega) h h [] (by simp;omega)
 rw[List.nil_append]at g3
 rw[List.append_nil]at g4
 have hA:=zwY (l.l.take k).reverse h h
 rw[List.length_reverse,List.length_take]at hA
 have hwl:IntKind.wrap .i64 ((l.l.length:Int)-1)=(l.l.length:Int)-1:=w64 (by omega) (by omega)
 have hwk:IntKind.wrap .i64 ((k:Int)-1)=(k:Int)-1:=w64 (by omega) (by omega)
 have hwk1:IntKind.wrap .i64 ((k:Int)+1)=((k+1:Nat):Int):=by rw[w64 (by omega) (by omega)];rfl
 refine⟨k,hk,h,rfl,by omega,g2,?_,?_⟩
 ·unfold P35 zju
  rw[if_neg (by simp;omega),if_neg e,hwl,g1,Option.bind_some,hwk,g3,Option.bind_some]
  dsimp only
  generalize goA h h (l.l.take k).reverse=A at hA⊢
  have hwA:IntKind.wrap .i64 ((A.length:Int)-1)=(A.length:Int)-1:=w64 (by omega) (by omega)
  rw[hwA,zAP (l:=A) (by omega) ?_ ?_,Option.bind_some,if_pos (by simp),zbi hk,Option.bind_some,if_pos (by rw[hroom,List.length_reverse];omega),hwk1]
  ·have hc:cut l.l ((k+1:Nat):Int) (l.l.length:Int)=some (l.l.drop (k+1)):=by
    unfold cut
    rw[if_pos ⟨by omega,by omega,by omega⟩]
    congr 1
    rw[List.take_of_length_le (by rw[List.length_drop];omega)]
    rfl
   rw[hc,Option.bind_some]
   have:=zDD l (by omega) (l.l.drop (k+1)) (by rw[List.length_drop];omega) (l.l.drop (k+1)).length 0 (by omega) h h (A.reverse++[l.l[k].item]) (by simp;omega)
   rw[show((0:Nat):Int)=0 from rfl,List.drop_zero]at this
   rw[this,Option.bind_some]
  ·intro i j c hi hj hcl hij
   have hw1:=zaU (show i<2^62 by omega)
   have hw2:IntKind.wrap .i64 ((j:Int)-1)=(j:Int)-1:=w64 (by omega) (by omega)
   simp only[zeb,hw1,hw2,zjr hi,zjr hj,Option.bind_some]
   rw[if_pos (decide_eq_true (by omega))]
   rw[show((i:Int)).toNat=i by omega,show((j:Int)).toNat=j by omega]
   have hj':j<(c.set i c[j]).length:=by rw[List.length_set];exact hj
   have:rdA (c.set i c[j]) ((c.set i c[j]).length) (j:Int)=some (c.set i c[j])[j]:=zjr hj'
   rw[this,Option.bind_some]
  ·intro i j c hij
   simp only[zeb]
   rw[if_neg (by simp;omega)]
 ·unfold P36
  rw[if_neg (by simp;omega),if_neg e,hwl,zDE,g1,Option.bind_some,hwk,g4,Option.bind_some,zbi hk,Option.bind_some,if_pos (by rw[hroom,List.length_reverse];omega),hwk1]
  have:=zGD l (by omega) (l.l.length-(k+1)) (k+1) (by omega) h h ((goA h h (l.l.take k).reverse).reverse++[l.l[k].item]) (by simp;omega)
  rw[this,Option.bind_some];rfl
theorem zgG {l:Sl Step} {a:Int} {r:Sl Int×Int} (h:P35 l a=some r) (n:Bool):pc prog 35 [.list n (l.l.map zan),.int .i64 a]=some (eT2 (eSl (D.int .i64)) (D.int .i64) r):=zKM ⟨n,l.l⟩ a r h
theorem zqv {l:Sl Step} {a:Int} {r:Sl Int×Int} (h:P36 l a=some r) (n:Bool):pc prog 36 [.list n (l.l.map zan),.int .i64 a]=some (eT2 (eSl (D.int .i64)) (D.int .i64) r):=zKN ⟨n,l.l⟩ a r h
theorem zqw {l:List Step} {k:Nat} (hk:k<l.length) (h:Int):(zju l k h l[k].item).Sublist (l.map (·.item)):=by
 unfold zju
 have e:l.map (·.item)=((l.take k).map (·.item)++[l[k].item])++(l.drop (k+1)).map (·.item):=by
  conv=>lhs;rw[←List.take_append_drop k l,List.drop_eq_getElem_cons hk]
  rw[List.map_append,List.map_cons,List.append_assoc,List.singleton_append]
 rw[e]
 refine List.Sublist.append (List.Sublist.append ?_ (List.Sublist.refl _)) (zxa _ _ _)
 have:=(zwZ (l.take k).reverse h h).reverse
 rw[←List.map_reverse,List.reverse_reverse]at this
 exact this
theorem zxc {l:List Step} {k:Nat} (hk:k<l.length) (ho:l.all zcY=true):(zju l k 0 l[k].item).length=l.length:=by
 unfold zju
 have h1:((l.take k).reverse).all zcY=true:=by
  rw[List.all_eq_true]at ho⊢
  exact fun x hx=>ho x (List.mem_of_mem_take (List.mem_reverse.1 hx))
 have h2:(l.drop (k+1)).all zcY=true:=by
  rw[List.all_eq_true]at ho⊢
  exact fun x hx=>ho x (List.mem_of_mem_drop hx)
 rw[zqt _ _ h1,zqu _ _ h2]
 simp;omega
theorem zeu:pc prog 41 []=some (.bool true):=zER 60 (by kernel_rfl)
theorem zAS {a b:Int} {r t:List Int} (h:(a::r).Sublist (b::t)):if(a==b)=true then r.Sublist t else(a::r).Sublist t:=by
 by_cases e:a=b
 ·subst e
  rw[if_pos (by simp)]
  cases h with
  |cons _ h=>exact(List.sublist_cons_self a r).trans h
  |cons_cons _ h=>exact h
 ·rw[if_neg (by simpa using e)]
  cases h with
  |cons _ h=>exact h
  |cons_cons _ h=>exact absurd rfl e
theorem zpe (l:Sl Step) (a:Int) (_:Sl.ok (fun y=>Step.ok y) l) (ho:IntKind.i64.min≤a∧a≤IntKind.i64.max) (hb:D.bulkAll [eSl zan l,.int .i64 a]≤1048576):pc prog 12 [eSl zan l,.int .i64 a]=some (.bool true):=by
 have ho': -9223372036854775808≤a∧a≤9223372036854775807:=ho
 refine zKL l a _ ?_
 unfold P12
 rw[zeu,zaz (e:=D.bool),Option.bind_some,if_neg (by simp)]
 rcases zns l a ho' with⟨h1,h2,-⟩|⟨h1,h2,-⟩|⟨k,hk,h,rfl,h40,h1,h2,-⟩
 ·have h2:=zgG h2 l.n
  rw[h2,zaz (e:=eT2 (eSl (D.int .i64)) (D.int .i64)),Option.bind_some,if_pos (by decide),if_pos (by decide),Option.bind_some,decide_eq_true (show((4096:Int)<(l.l.length:Int)) by omega)]
  cases(bif decide (a<0)then true else decide ((l.l.length:Int)≤a))<;>rfl
 ·have h2:=zgG h2 l.n
  rw[h2,zaz (e:=eT2 (eSl (D.int .i64)) (D.int .i64)),Option.bind_some,if_pos (by decide),if_pos (by decide),Option.bind_some]
  rcases h1 with h1|h1
  ·rw[decide_eq_true h1];rfl
  ·rw[decide_eq_true h1];cases decide (a<0)<;>rfl
 ·have h2:=zgG h2 l.n
  rw[h2,zaz (e:=eT2 (eSl (D.int .i64)) (D.int .i64)),Option.bind_some,if_neg (by simp),if_neg (by
   rw[decide_eq_false (by omega),decide_eq_false (by omega)];simp)]
  have hsub:=zqw hk h
  have hopen:l.l.all zcY=true→(zju l.l k h l.l[k].item).length=l.l.length:=fun ho=>by rw[h1 ho];exact zxc hk ho
  have hown:l.l[k].item∈zju l.l k h l.l[k].item:=by unfold zju;simp
  have hlen:=hsub.length_le
  rw[List.length_map]at hlen
  generalize zju l.l k h l.l[k].item=out at hsub hopen hown hlen
  have key:∀n i,i+n=l.l.length→∀(op:Bool) (j:Nat),j≤out.length→(out.drop j).Sublist ((l.l.drop i).map (·.item))→
   zaR (zbV l (k:Int) (⟨false,out⟩,0)) ((i:Int),op,(j:Int))=some (op&&(l.l.drop i).all zcY,(out.length:Int)):=by
   intro n
   induction n with
   |zero=>
    intro i hi op j hj hs
    obtain rfl:i=l.l.length:=by omega
    rw[List.drop_length,List.map_nil]at hs
    have hz:out.drop j=[]:=List.sublist_nil.1 hs
    have hj2:j=out.length:=by
     have:=congrArg List.length hz
     rw[List.length_drop,List.length_nil]at this;omega
    refine zaB ?_
    simp only[zbV]
    rw[if_neg (by simp),List.drop_length,hj2]
    simp
   |succ n ih=>
    intro i hi op j hj hs
    have hlt:i<l.l.length:=by omega
    have hw:=zaU (show i<2^62 by omega)
    rw[List.drop_eq_getElem_cons hlt]at hs⊢
    rw[List.map_cons]at hs
    have hop:(op&&(l.l[i]::l.l.drop (i+1)).all zcY)=((op&&zcY l.l[i])&&(l.l.drop (i+1)).all zcY):=by rw[List.all_cons,Bool.and_assoc]
    rw[hop]
    have hj3:∃j',j'≤out.length∧(out.drop j').Sublist ((l.l.drop (i+1)).map (·.item))∧zbV l (k:Int) (⟨false,out⟩,0) ((i:Int),op,(j:Int))=some (.inl (((i+1:Nat):Int),op&&zcY l.l[i],(j':Int))):=by
     by_cases hjl:j<out.length
     ·have hw2:=zaU (show j<2^62 by omega)
      rw[List.drop_eq_getElem_cons hjl]at hs
      have:=zAS hs
      by_cases he:out[j]=l.l[i].item
      ·rw[if_pos (by simpa using he)]at this
       refine⟨j+1,by omega,this,?_⟩
       simp only[zbV,zbi hlt,zbi hjl,Option.bind_some,hw,hw2,zcY]
       rw[if_pos (decide_eq_true (by omega))]
       have hd:decide ((j:Int)<(out.length:Int))=true:=decide_eq_true (by omega)
       have he':(out[j]==l.l[i].item)=true:=by simpa using he
       simp only[hd,he',if_true,Option.bind_some]
       cases op<;>cases l.l[i].closed<;>cases l.l[i].slot<;>rfl
      ·rw[if_neg (by simpa using he)]at this
       refine⟨j,by omega,by rw[List.drop_eq_getElem_cons hjl];exact this,?_⟩
       simp only[zbV,zbi hlt,zbi hjl,Option.bind_some,hw,zcY]
       rw[if_pos (decide_eq_true (by omega))]
       have hd:decide ((j:Int)<(out.length:Int))=true:=decide_eq_true (by omega)
       have he':(out[j]==l.l[i].item)=false:=by simpa using he
       simp only[hd,he',if_true,Bool.false_eq_true,if_false,Option.bind_some]
       cases op<;>cases l.l[i].closed<;>cases l.l[i].slot<;>rfl
     ·have hz:out.drop j=[]:=List.drop_of_length_le (by omega)
      refine⟨j,hj,by rw[hz];exact List.nil_sublist _,?_⟩
      simp only[zbV,zbi hlt,Option.bind_some,hw,zcY]
      rw[if_pos (decide_eq_true (by omega))]
      have hd:decide ((j:Int)<(out.length:Int))=false:=decide_eq_false (by omega)
      simp only[hd,Bool.false_eq_true,if_false]
      cases op<;>cases l.l[i].closed<;>cases l.l[i].slot<;>rfl
    obtain⟨j',g1,g2,g3⟩:=hj3
    rw[zaH g3]
    exact ih (i+1) (by omega) _ j' g1 g2
  have key2:∀(R:Bool×Int) n i,i+n=out.length→∀own:Bool,zaR (zdd l (k:Int) (⟨false,out⟩,0) R) ((i:Int),own)=some (own||(out.drop i).contains l.l[k].item):=by
   intro R n
   induction n with
   |zero=>
    intro i hi own
    obtain rfl:i=out.length:=by omega
    refine zaB ?_
    simp only[zdd]
    rw[if_neg (by simp),List.drop_length]
    simp
   |succ n ih=>
    intro i hi own
    have hlt:i<out.length:=by omega
    have hw:=zaU (show i<2^62 by omega)
    rw[List.drop_eq_getElem_cons hlt,List.contains_cons]
    rw[zaH (y:=(((i+1:Nat):Int),own||(out[i]==l.l[k].item)))]
    ·rw[ih (i+1) (by omega),Bool.or_assoc]
     congr 2
     rw[show(out[i]==l.l[k].item)=(l.l[k].item==out[i]) by rw[Bool.eq_iff_iff,beq_iff_eq,beq_iff_eq];exact eq_comm]
    ·simp only[zdd,zbi hlt,zbi hk,Option.bind_some,hw]
     rw[if_pos (decide_eq_true (by omega))]
     cases own<;>rfl
  have t1:=key l.l.length 0 (by omega) true 0 (Nat.zero_le _) (by simpa using hsub)
  rw[show((0:Nat):Int)=0 from rfl,List.drop_zero,Bool.true_and]at t1
  rw[t1,Option.bind_some]
  have t2:=key2 (l.l.all zcY,(out.length:Int)) out.length 0 (by omega) false
  rw[show((0:Nat):Int)=0 from rfl,List.drop_zero,Bool.false_or]at t2
  rw[t2,Option.bind_some,List.contains_iff_mem.2 hown,if_pos (by simp)]
  by_cases hop:l.l.all zcY=true
  ·rw[hop,hopen hop];simp
  ·have:l.l.all zcY=false:=by simpa using hop
   rw[this];rfl
end Go.Proofs.Ythodcjjgimeeoaa.P
