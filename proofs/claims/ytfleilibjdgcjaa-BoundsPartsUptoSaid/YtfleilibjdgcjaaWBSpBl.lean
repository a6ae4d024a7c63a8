/- Shaken copy of a longer text: what one law needs. Its conditions: none. -/
import Derived.Test.YtfleilibjdgcjaaWBSpBo
set_option linter.unusedSimpArgs false
set_option linter.unusedVariables false
set_option linter.unusedSimpArgs false
set_option linter.unusedVariables false
set_option linter.unusedSectionVars false
set_option linter.unnecessarySimpa false
namespace Go.Proofs.Ytfleilibjdgcjaa.B
open Go.AI
theorem zxc:pc prog 40 []=some (.bool true):=zEM 60 (by kernel_rfl)
theorem zpr {f:List Node} {a b:Bound} (h:(zlJ f a b).2=0):zaI f∧isPt f a∧isPt f b∧root f a.node=root f b.node∧zlJ f a b=(cmpL (key f a) (key f b),0):=by
 unfold zlJ at h⊢
 by_cases h0:bfR f [a,b] []=0
 ·rw[if_pos h0]at h⊢
  obtain⟨hr,h1,_⟩:=zfe.1 h0
  by_cases he:root f a.node=root f b.node
  ·rw[if_pos he]at h⊢
   exact⟨hr,h1 a (by simp),h1 b (by simp),he,rfl⟩
  ·rw[if_neg he]at h;cases h
 ·rw[if_neg h0]at h;exact absurd h h0
theorem zps {f:List Node} {a b:Bound} (hr:zaI f) (ha:isPt f a) (hb:isPt f b) (he:root f a.node=root f b.node):zlJ f a b=(cmpL (key f a) (key f b),0):=by
 unfold zlJ
 have h0:bfR f [a,b] []=0:=zfe.2 ⟨hr,fun x hx=>by
  simp only[List.mem_cons,List.not_mem_nil,or_false]at hx
  rcases hx with rfl|rfl
  ·exact ha
  ·exact hb,fun x hx=>by cases hx⟩
 rw[if_pos h0,if_pos he]
theorem zxd {f:List Node} (hr:zaI f) {h:Int} (hh:isN f h) {b:Bound} (hb:b∈zem f h):isPt f b∧root f h=root f b.node:=by
 obtain⟨h1,h2⟩:=(zfQ hr h hh b).1 hb
 exact⟨⟨(zlx hr _ h1).2,h2⟩,zqx hr hh _ h1⟩
theorem zDo {f:List Node} (hr:zaI f) {h:Int} (hh:isN f h) {i:Nat} (hi:i+1<(zem f h).length):zlJ f (zem f h)[i] (zem f h)[i+1]=(-1,0):=by
 obtain⟨p1,q1⟩:=zxd hr hh (List.getElem_mem (show i<(zem f h).length by omega))
 obtain⟨p2,q2⟩:=zxd hr hh (List.getElem_mem hi)
 rw[zps hr p1 p2 (q1.symm.trans q2),List.pairwise_iff_getElem.1 (zhp hr h hh) i (i+1) (by omega) hi (by omega)]
theorem zsI {step:Int→Option (Int⊕(Unit⊕Unit))} {n:Nat} (hs:∀i:Nat,i+1<n→i+1<40→step ((i+1:Nat):Int)=some (.inl ((i+2:Nat):Int))) (he:∀k:Nat,n≤k∨40≤k→step (k:Int)=some (.inr (.inl ()))):zaT step 1=some (.inl ()):=by
 have key:∀m k:Nat,40≤k+m→zaT step ((k+1:Nat):Int)=some (.inl ()):=by
  intro m
  induction m with
  |zero=>intro k hk;exact zaM (he (k+1) (by omega))
  |succ m ih=>
   intro k hk
   by_cases hc:k+1<n∧k+1<40
   ·rw[zaY (hs k hc.1 hc.2)];exact ih (k+1) (by omega)
   ·exact zaM (he (k+1) (by omega))
 exact key 40 0 (by omega)
theorem zAp {f:List Node} (h:Int):(zgC f h).1.l.length≤2^27∧((zgC f h).2==0)=decide (0<((zgC f h).1.l.length:Int))∧∀i (hi:i+1<(zgC f h).1.l.length),zlJ f (zgC f h).1.l[i] (zgC f h).1.l[i+1]=(-1,0):=by
 unfold zgC
 by_cases h0:zcD f [h]=0
 ·obtain⟨hr,h1⟩:=zdQ.1 h0
  have hh:=h1 h (by simp)
  have hne:=List.length_pos_iff.2 (zAN hr hh)
  simp only[if_pos h0]
  exact⟨zpq hr hh,by simp;omega,fun i hi=>zDo hr hh hi⟩
 ·simp only[if_neg h0]
  exact⟨by simp,by simpa using h0,fun i hi=>by simp at hi⟩
theorem zko {f:Forest} (hf:Fit f.nodes.l) {l:List Bound} (hl:l.length≤2^27) (hs:∀i (hi:i+1<l.length),zlJ f.nodes.l l[i] l[i+1]=(-1,0)) {step:Int→Option (Int⊕(Unit⊕Unit))}
 (e:∀x,step x=if(bif (decide (x<(l.length:Int)))then(decide (x<40))else false)=true then(rd l (IntKind.wrap .i64 (x-1))).bind fun y=>(rd l x).bind fun z=>(dec (eT2 (D.int .i64) (D.int .i64)) (pc prog 41 [zac f,zai y,zai z])).bind fun r=>if(bif (!(r.2==0))then true else(!(r.1==(-1))))=true then some (.inr (.inr ()))else some (.inl (IntKind.wrap .i64 (x+1)))else some (.inr (.inl ()))):
 zaT step 1=some (.inl ()):=by
 refine zsI (n:=l.length) (fun i hi h4=> ?_) fun k hk=> ?_
 ·have hw:IntKind.wrap .i64 (((i+1:Nat):Int)-1)=(i:Int):=by rw[w64 (by omega) (by omega)];omega
  have hi':i<l.length:=by omega
  rw[e,if_pos (by rw[decide_eq_true (show((i+1:Nat):Int)<(l.length:Int) by omega),decide_eq_true (show((i+1:Nat):Int)<40 by omega)];rfl),hw,zdq hi',Option.bind_some,zdq hi,Option.bind_some,zjq f _ _ hf,zav (e:=eT2 (D.int .i64) (D.int .i64)),Option.bind_some,hs i hi,if_neg (by simp),zbc (show i+1<2^62 by omega)]
 ·rw[e,if_neg]
  rcases hk with hk|hk
  ·rw[decide_eq_false (show ¬((k:Int)<(l.length:Int)) by omega)];simp
  ·rw[decide_eq_false (show ¬((k:Int)<40) by omega)];cases decide ((k:Int)<(l.length:Int))<;>simp
theorem zjz (f:Forest) (a b c:Bound) (_:Forest.ok f) (_:Bound.ok a) (_:Bound.ok b) (_:Bound.ok c) (hb:D.bulkAll [zac f,zai a,zai b,zai c]≤1048576):pc prog 10 [zac f,zai a,zai b,zai c]=some (.bool true):=by
 have hf:Fit f.nodes.l:=zqB hb
 refine zKC f a b c _ ?_
 unfold P10
 obtain⟨wl,w2,w3⟩:=zAp (f:=f.nodes.l) a.node
 have l0:zaT (zeY f (zgC f.nodes.l a.node)) 1=some (.inl ()):=zko hf wl w3 fun x=>rfl
 have l1:zaT (zeZ f (zgC f.nodes.l a.node)) 1=some (.inl ()):=zko hf wl w3 fun x=>rfl
 rw[zxc,zav (e:=D.bool),Option.bind_some,if_neg (by simp)]
 simp only[zjq f _ _ hf,zqD f _ hf,zav (e:=eT2 (D.int .i64) (D.int .i64)),zav (e:=eT2 (eSl zai) (D.int .i64)),Option.bind_some,l0,l1,w2,beq_self_eq_true]
 have c1:(if((zlJ f.nodes.l a b).2==0)=true then some (bif (bif (!((zlJ f.nodes.l b a).2==0))then true else(!((zlJ f.nodes.l a b).1==(IntKind.wrap .i64 (0-(zlJ f.nodes.l b a).1)))))then true else(!(((zlJ f.nodes.l a b).1==0)==(decide (a=b)))))else some false)=some false:=by
  by_cases h:(zlJ f.nodes.l a b).2=0
  ·obtain⟨hr,ha,hbP,he,e1⟩:=zpr h
   have e2:=zps hr hbP ha he.symm
   have hz:=(zej f a b hf hr ha.1 hbP.1 he).2
   have hsw:=zbx (key f.nodes.l a) (key f.nodes.l b)
   rw[e1,e2,hsw,if_pos (by simp)]
   have h1:(cmpL (key f.nodes.l a) (key f.nodes.l b)==0)=decide (a=b):=by
    rw[Bool.eq_iff_iff,beq_iff_eq,decide_eq_true_iff];exact hz
   have h2:IntKind.wrap .i64 (0- -cmpL (key f.nodes.l a) (key f.nodes.l b))=cmpL (key f.nodes.l a) (key f.nodes.l b):=by
    rcases zin (key f.nodes.l a) (key f.nodes.l b)with h|h|h<;>rw[h]<;>rfl
   simp only[h1,h2]
   simp
  ·rw[if_neg (by simpa using h)]
 rw[c1,Option.bind_some,if_neg (by simp)]
 by_cases h2:(bif ((zlJ f.nodes.l a b).2==0)then((zlJ f.nodes.l b c).2==0)else false)=true
 ·rw[if_pos h2]
  rw[zxl]at h2
  simp only[Bool.and_eq_true,beq_iff_eq]at h2
  obtain⟨hr,ha,hbP,he,e1⟩:=zpr h2.1
  obtain⟨_,_,hcP,he2,e2⟩:=zpr h2.2
  rw[e1,e2,zps hr ha hcP (he.trans he2),if_pos (by simp),Option.bind_some,if_neg]
  by_cases k1:cmpL (key f.nodes.l a) (key f.nodes.l b)≤0
  ·by_cases k2:cmpL (key f.nodes.l b) (key f.nodes.l c)≤0
   ·have:=zeX k1 k2
    rw[decide_eq_false (show ¬(0<cmpL (key f.nodes.l a) (key f.nodes.l c)) by omega)];simp
   ·rw[decide_eq_false k2];simp
  ·rw[decide_eq_false k1];simp
 ·rw[if_neg h2]
end Go.Proofs.Ytfleilibjdgcjaa.B
