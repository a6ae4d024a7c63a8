/- Shaken copy of a longer text: what one law needs. Its conditions: none. -/
import Derived.Test.YthodcjjgimeeoaaYPSpFo5
set_option linter.unusedSimpArgs false
set_option linter.unusedVariables false
set_option linter.unusedSimpArgs false
set_option linter.unusedVariables false
set_option linter.unusedSectionVars false
set_option linter.unnecessarySimpa false
namespace Go.Proofs.Ythodcjjgimeeoaa.P
open Go.AI
theorem zfW {f:List Node} {s x:Int} {n:Nat}:x∈(List.range n).map (fun i=>itr f i s)↔∃a,a<n∧x=itr f a s:=by
 rw[List.mem_map]
 constructor
 ·rintro⟨a,ha,rfl⟩;exact⟨a,List.mem_range.1 ha,rfl⟩
 ·rintro⟨a,ha,rfl⟩;exact⟨a,List.mem_range.2 ha,rfl⟩
def Col (f:List Node) (i:Int) (st:List Int):Prop:=st.length=f.length+1∧∀x,isN f x→(gt st x=0∧i<x)∨(gt st x=2∧¬zfu f x)∨(gt st x=3∧zfu f x)
theorem zwT (f:Forest) (hf:f.nodes.l.length≤4096) (st:List Int) (i:Nat) (hi:i<f.nodes.l.length) (hc:Col f.nodes.l i st):∃st2,zcd f (st,(i:Int))=some (.inl (st2,((i+1:Nat):Int)))∧Col f.nodes.l ((i+1:Nat):Int) st2:=by
 have hw:=zaU (show i<2^62 by omega)
 obtain⟨n,st',hnl,h1,h2,h3,h4,h5⟩:=zDy f hf (st,(i:Int)) st ((i+1:Nat):Int) (f.nodes.l.length+1) 0 st hc.1 (by rw[←hc.1];exact List.count_le_length) (by omega) (fun x _=>by simp) (fun i hi=>absurd hi (Nat.not_lt_zero _))
 rw[show(List.range 0).map (fun j=>itr f.nodes.l j ((i+1:Nat):Int))=[]from rfl,show itr f.nodes.l 0 ((i+1:Nat):Int)=((i+1:Nat):Int)from rfl]at h1
 simp only[zcd,hw]
 rw[if_pos (decide_eq_true (by omega)),h1,Option.bind_some]
 dsimp only
 have hwr:(IntKind.wrap .i64 ((f.nodes.l.length:Int)+1)).toNat=f.nodes.l.length+1:=by rw[w64 (by omega) (by omega)];omega
 generalize hs:((i+1:Nat):Int)=s at*
 have hwy:∀x∈(List.range n).map (fun i=>itr f.nodes.l i s),0≤x∧x.toNat<f.nodes.l.length+1:=by
  intro x hx
  obtain⟨a,ha,rfl⟩:=zfW.1 hx
  have:=(h4 a ha).1
  unfold isN at this
  omega
 have hsx:¬(s∈(List.range n).map (fun i=>itr f.nodes.l i s))→itr f.nodes.l n s=s:=by
  intro hm
  rcases n with _|n
  ·rfl
  ·exact absurd (zfW.2 ⟨0,by omega,rfl⟩) hm
 have hsN:isN f.nodes.l s:=by unfold isN;omega
 have hkeep:∀x,isN f.nodes.l x→x∉(List.range n).map (fun i=>itr f.nodes.l i s)→(gt st' x=0∧s<x)∨(gt st' x=2∧¬zfu f.nodes.l x)∨(gt st' x=3∧zfu f.nodes.l x):=by
  intro x hx hm
  have hg:=h3 x (by unfold isN at hx;omega)
  rw[if_neg hm]at hg
  rw[hg]
  rcases hc.2 x hx with⟨e1,e2⟩|e|e
  ·left
   refine⟨e1,?_⟩
   by_cases hl:s<x
   ·exact hl
   ·exfalso
    obtain rfl:x=s:=by omega
    have he:=hsx hm
    rw[he]at h5
    exact h5 hx (by rw[hg];exact e1)
  ·exact .inr (.inl e)
  ·exact .inr (.inr e)
 by_cases hN:isN f.nodes.l (itr f.nodes.l n s)
 ·have hN':=hN
  unfold isN at hN'
  rw[if_pos (by simp only[zqg];simp;omega),hwr,zkn h2 (by omega) (by omega),Option.bind_some]
  have hcol:∃c,(if(!(gt st' (itr f.nodes.l n s)==2))=true then some 3 else some 2:Option Int)=some c∧∀x,isN f.nodes.l x→x∈(List.range n).map (fun i=>itr f.nodes.l i s)→(c=2∧¬zfu f.nodes.l x)∨(c=3∧zfu f.nodes.l x):=by
   by_cases hm:itr f.nodes.l n s∈(List.range n).map (fun i=>itr f.nodes.l i s)
   ·have hg:=h3 _ (show 0≤itr f.nodes.l n s by omega)
    rw[if_pos hm]at hg
    refine⟨3,by rw[hg];rfl,fun x hx hxm=> ?_⟩
    obtain⟨a,ha,e⟩:=zfW.1 hm
    obtain⟨b,hb,rfl⟩:=zfW.1 hxm
    exact .inr ⟨rfl,znl b (zjq (fun k hk=>(h4 k hk).1) ha e.symm)⟩
   ·have h0:=h5 hN
    rcases hkeep _ hN hm with⟨e1,e2⟩|⟨e1,e2⟩|⟨e1,e2⟩
    ·exact absurd e1 h0
    ·refine⟨2,by rw[e1];rfl,fun x hx hxm=> ?_⟩
     obtain⟨b,hb,rfl⟩:=zfW.1 hxm
     refine .inl ⟨rfl,fun hL=>e2 ?_⟩
     have:=znl (n-b) hL
     rwa [←zet,show b+(n-b)=n by omega]at this
    ·refine⟨3,by rw[e1];rfl,fun x hx hxm=> ?_⟩
     obtain⟨b,hb,rfl⟩:=zfW.1 hxm
     refine .inr ⟨rfl,fun k=> ?_⟩
     rcases Nat.lt_or_ge (b+k) n with g|g
     ·rw[←zet];exact(h4 _ g).1
     ·have:=e2 (b+k-n)
      rw[←zet]at this⊢
      rwa [show n+(b+k-n)=b+k by omega]at this
  obtain⟨c,hc1,hc2⟩:=hcol
  rw[hc1,Option.bind_some]
  have q1:∀k (hk:k<((List.range n).map (fun i=>itr f.nodes.l i s)).length) (st3:List Int),st3.length=f.nodes.l.length+1→zbS f (st,(i:Int)) ((List.range n).map (fun i=>itr f.nodes.l i s),itr f.nodes.l n s,st') c (st3,(k:Int))=some (.inl (st3.set (((List.range n).map (fun i=>itr f.nodes.l i s))[k]).toNat c,((k+1:Nat):Int))):=by
   intro k hk st3 h33
   have hm:=hwy _ (List.getElem_mem hk)
   have hkl:k<n:=by simpa using hk
   have hw2:=zaU (show k<2^62 by omega)
   simp only[zbS,hw2]
   rw[if_pos (decide_eq_true (by omega)),zjr hk,Option.bind_some,hwr,zkn h33 hm.1 hm.2]
   try rfl
  have q2:∀st3:List Int,st3.length=f.nodes.l.length+1→zbS f (st,(i:Int)) ((List.range n).map (fun i=>itr f.nodes.l i s),itr f.nodes.l n s,st') c (st3,(((List.range n).map (fun i=>itr f.nodes.l i s)).length:Int))=some (.inr st3):=by
   intro st3 h33
   simp only[zbS]
   try rw[if_neg (by simp)]
  obtain⟨st2,g1,g2,g3⟩:=znm (step:=zbS f (st,(i:Int)) ((List.range n).map (fun i=>itr f.nodes.l i s),itr f.nodes.l n s,st') c) (c:=c) hwy q1 q2 st' h2
  rw[g1,Option.bind_some]
  refine⟨st2,rfl,g2,fun x hx=> ?_⟩
  have hx':=hx
  unfold isN at hx'
  rw[g3 x (by omega)]
  by_cases hm:x∈(List.range n).map (fun i=>itr f.nodes.l i s)
  ·rw[if_pos hm];exact .inr (hc2 x hx hm)
  ·rw[if_neg hm];exact hkeep x hx hm
 ·rw[if_neg (by simp only[zqg];unfold isN at hN;simp;omega)]
  have hall:∀x,x∈(List.range n).map (fun i=>itr f.nodes.l i s)→¬zfu f.nodes.l x:=by
   intro x hxm hL
   obtain⟨b,hb,rfl⟩:=zfW.1 hxm
   have:=hL (n-b)
   rw[←zet,show b+(n-b)=n by omega]at this
   exact hN this
  have q1:∀k (hk:k<((List.range n).map (fun i=>itr f.nodes.l i s)).length) (st3:List Int),st3.length=f.nodes.l.length+1→zbT f (st,(i:Int)) ((List.range n).map (fun i=>itr f.nodes.l i s),itr f.nodes.l n s,st') (st3,(k:Int))=some (.inl (st3.set (((List.range n).map (fun i=>itr f.nodes.l i s))[k]).toNat 2,((k+1:Nat):Int))):=by
   intro k hk st3 h33
   have hm:=hwy _ (List.getElem_mem hk)
   have hkl:k<n:=by simpa using hk
   have hw2:=zaU (show k<2^62 by omega)
   simp only[zbT,hw2]
   rw[if_pos (decide_eq_true (by omega)),zjr hk,Option.bind_some,hwr,zkn h33 hm.1 hm.2]
   try rfl
  have q2:∀st3:List Int,st3.length=f.nodes.l.length+1→zbT f (st,(i:Int)) ((List.range n).map (fun i=>itr f.nodes.l i s),itr f.nodes.l n s,st') (st3,(((List.range n).map (fun i=>itr f.nodes.l i s)).length:Int))=some (.inr st3):=by
   intro st3 h33
   simp only[zbT]
   try rw[if_neg (by simp)]
  obtain⟨st2,g1,g2,g3⟩:=znm (step:=zbT f (st,(i:Int)) ((List.range n).map (fun i=>itr f.nodes.l i s),itr f.nodes.l n s,st')) (c:=2) hwy q1 q2 st' h2
  rw[g1,Option.bind_some]
  refine⟨st2,rfl,g2,fun x hx=> ?_⟩
  have hx':=hx
  unfold isN at hx'
  rw[g3 x (by omega)]
  by_cases hm:x∈(List.range n).map (fun i=>itr f.nodes.l i s)
  ·rw[if_pos hm];exact .inr (.inl ⟨rfl,hall x hm⟩)
  ·rw[if_neg hm];exact hkeep x hx hm
theorem zAu (f:Forest) (hf:f.nodes.l.length≤4096):∃r:List Bool,pc prog 160 [zam f]=some (eSl D.bool ⟨false,r⟩)∧∀h,isN f.nodes.l h→rd r h=some (!zea f.nodes.l h):=by
 have hwr:IntKind.wrap .i64 ((f.nodes.l.length:Int)+1)=((f.nodes.l.length+1:Nat):Int):=by rw[w64 (by omega) (by omega)];omega
 have hwr2:(IntKind.wrap .i64 ((f.nodes.l.length:Int)+1)).toNat=f.nodes.l.length+1:=by rw[hwr];omega
 have hroom:AI.roomBytes=2^46:=rfl
 have hA:∀m i,i+m=f.nodes.l.length→∀st,Col f.nodes.l (i:Int) st→∃st',zaR (zcd f) (st,(i:Int))=some st'∧Col f.nodes.l (f.nodes.l.length:Int) st':=by
  intro m
  induction m with
  |zero=>
   intro i hi st hc
   obtain rfl:i=f.nodes.l.length:=by omega
   refine⟨st,zaB ?_,hc⟩
   simp only[zcd]
   rw[if_neg (by simp)]
  |succ m ih=>
   intro i hi st hc
   obtain⟨st2,h1,h2⟩:=zwT f hf st i (by omega) hc
   obtain⟨st3,h3,h4⟩:=ih (i+1) (by omega) st2 h2
   exact⟨st3,by rw[zaH h1];exact h3,h4⟩
 obtain⟨st,hs1,hs2⟩:=hA f.nodes.l.length 0 (by omega) (List.replicate (f.nodes.l.length+1) 0) ⟨by simp,fun x hx=>by
  left
  unfold isN at hx
  refine⟨?_,by omega⟩
  unfold gt
  rw[List.getD_eq_getElem?_getD,List.getElem?_replicate]
  split<;>rfl⟩
 have hB:∀m i,i+m=f.nodes.l.length+1→∀l:List Bool,l.length=f.nodes.l.length+1→∃l',zaR (zcD f st) (l,(i:Int))=some l'∧l'.length=f.nodes.l.length+1∧∀j:Nat,j<f.nodes.l.length+1→l'[j]? =if i≤j then some (gt st (j:Int)==2)else l[j]? :=by
  intro m
  induction m with
  |zero=>
   intro i hi l hl
   obtain rfl:i=f.nodes.l.length+1:=by omega
   refine⟨l,zaB ?_,hl,fun j hj=>by rw[if_neg (by omega)]⟩
   simp only[zcD,hwr2]
   rw[if_neg (by simp)]
  |succ m ih=>
   intro i hi l hl
   have hw:=zaU (show i<2^62 by omega)
   obtain⟨l',h1,h2,h3⟩:=ih (i+1) (by omega) (l.set i (gt st (i:Int)==2)) (by rw[List.length_set];exact hl)
   refine⟨l',?_,h2,fun j hj=> ?_⟩
   ·rw[←h1]
    refine zaH ?_
    simp only[zcD,hwr2,hw]
    rw[if_pos (decide_eq_true (by omega)),zkn hs2.1 (by omega) (by omega),Option.bind_some]
    unfold rdA
    rw[if_pos ⟨by omega,by omega⟩,List.getElem?_eq_getElem (by omega)];rfl
   ·rw[h3 j hj,List.getElem?_set]
    by_cases e:i=j
    ·subst e
     rw[if_neg (by omega),if_pos rfl,if_pos (by omega),if_pos (by omega)]
    ·by_cases e2:i+1≤j
     ·rw[if_pos e2,if_pos (by omega)]
     ·rw[if_neg e2,if_neg e,if_neg (by omega)]
 obtain⟨r,hr1,hr2,hr3⟩:=hB (f.nodes.l.length+1) 0 (by omega) (List.replicate (f.nodes.l.length+1) false) (by simp)
 refine⟨r,zIR f _ ?_,fun h hh=> ?_⟩
 ·unfold zIQ
  rw[if_pos (by rw[hwr2,hroom];omega),hwr2]
  rw[show((List.replicate (f.nodes.l.length+1) 0,0):List Int×Int)=(List.replicate (f.nodes.l.length+1) 0,((0:Nat):Int))from rfl,hs1,Option.bind_some,if_pos (by rw[hroom];omega)]
  rw[show((List.replicate (f.nodes.l.length+1) false,0):List Bool×Int)=(List.replicate (f.nodes.l.length+1) false,((0:Nat):Int))from rfl,hr1,Option.bind_some,if_pos hr2]
 ·have hh':=hh
  unfold isN at hh'
  unfold rd
  rw[if_pos (by omega),hr3 _ (by omega),if_pos (Nat.zero_le _),show((h.toNat:Nat):Int)=h by omega]
  rcases hs2.2 h hh with⟨e1,e2⟩|⟨e1,e2⟩|⟨e1,e2⟩
  ·omega
  ·rw[e1,zhi e2];rfl
  ·rw[e1,zfm.2 e2];rfl
noncomputable def zjI (f:List Node) (k:Nat):Bool:=match f[k]? with|some n=>zjH n&&zfA f ((k:Int)+1) n&& !(zea f ((k:Int)+1))|none=>true
noncomputable def zhM (f:List Node):Int×Int:=if 4096<f.length then(5,0)else match(List.range f.length).findIdx? (fun k=> !(zjI f k))with|some k=>(5,(k:Int)+1)|none=>(0,0)
theorem zwU (f:Forest) (hf:Fit f.nodes.l):pc prog 125 [zam f]=some (eT2 (D.int .i64) (D.int .i64) (zhM f.nodes.l)):=by
 refine zIP f _ ?_
 unfold zIO zhM
 by_cases h:4096<f.nodes.l.length
 ·rw[if_pos (decide_eq_true (by omega)),if_pos h]
 ·rw[if_neg (by simp;omega),if_neg h]
  rw[zgA (l:=List.range f.nodes.l.length) (fun k=> !(zjI f.nodes.l k)) (fun k=>Sum.inr ((k:Int)+1)) (Sum.inl ()) ?_ ?_,Option.bind_some]
  ·rcases(List.range f.nodes.l.length).findIdx? (fun k=> !(zjI f.nodes.l k))with _|k<;>rfl
  ·intro k hk
   simp only[List.length_range]at hk
   have hw:=zaU (show k<2^62 by omega)
   have hm:f.nodes.l[k]∈f.nodes.l:=List.getElem_mem hk
   have hwk:IntKind.wrap .i64 ((k:Int)+1)=(k:Int)+1:=by rw[hw];omega
   have hnd:=znc hk
   simp only[zdt,zbi hk,Option.bind_some,hwk,zAr _ (hf.2 _ hm).1,zaz (e:=D.bool),zwR f _ _ hf hnd,zAt f _ hf.1,List.getElem_range]
   rw[if_pos (decide_eq_true (by omega))]
   simp only[zBk]
   unfold zjI
   rw[List.getElem?_eq_getElem hk]
   dsimp only
   rw[show((k+1:Nat):Int)=(k:Int)+1 by omega]
   generalize zjH f.nodes.l[k]=b1
   generalize zfA f.nodes.l ((k:Int)+1) f.nodes.l[k]=b2
   generalize zea f.nodes.l ((k:Int)+1)=b3
   cases b1<;>cases b2<;>cases b3<;>rfl
  ·simp only[zdt]
   rw[if_neg (by simp)]
theorem zwV (f:Forest) (hf:Fit f.nodes.l):pc prog 124 [zam f]=some (eT2 (D.int .i64) (D.int .i64) (zhM f.nodes.l)):=by
 refine zIN f _ ?_
 unfold zIM zhM
 by_cases h:4096<f.nodes.l.length
 ·rw[if_pos (decide_eq_true (by omega)),if_pos h]
 ·rw[if_neg (by simp;omega),if_neg h]
  obtain⟨r,hr,hr2⟩:=zAu f (by omega)
  rw[hr,zaz (e:=eSl D.bool),Option.bind_some]
  rw[zgA (l:=List.range f.nodes.l.length) (fun k=> !(zjI f.nodes.l k)) (fun k=>Sum.inr ((k:Int)+1)) (Sum.inl ()) ?_ ?_,Option.bind_some]
  ·rcases(List.range f.nodes.l.length).findIdx? (fun k=> !(zjI f.nodes.l k))with _|k<;>rfl
  ·intro k hk
   simp only[List.length_range]at hk
   have hw:=zaU (show k<2^62 by omega)
   have hm:f.nodes.l[k]∈f.nodes.l:=List.getElem_mem hk
   have hwk:IntKind.wrap .i64 ((k:Int)+1)=(k:Int)+1:=by rw[hw];omega
   have hnd:=znc hk
   simp only[zds,zbi hk,Option.bind_some,hwk,zAq _ (hf.2 _ hm).1,zaz (e:=D.bool),zwS f _ _ hf hnd,hr2 _ (show isN f.nodes.l ((k:Int)+1) by unfold isN;omega),List.getElem_range]
   rw[if_pos (decide_eq_true (by omega))]
   simp only[zBk]
   unfold zjI
   rw[List.getElem?_eq_getElem hk]
   dsimp only
   rw[show((k+1:Nat):Int)=(k:Int)+1 by omega]
   generalize zjH f.nodes.l[k]=b1
   generalize zfA f.nodes.l ((k:Int)+1) f.nodes.l[k]=b2
   generalize zea f.nodes.l ((k:Int)+1)=b3
   cases b1<;>cases b2<;>cases b3<;>rfl
  ·simp only[zds]
   rw[if_neg (by simp)]
def zcE (f:List Node):Prop:=f.length≤4096∧∀k (hk:k<f.length),zjH f[k]=true∧zfA f ((k:Int)+1) f[k]=true∧¬zfu f ((k:Int)+1)
open Classical in
noncomputable def zhN (f:List Node):Bool:=decide (zcE f)
theorem zhj {f:List Node}:zhN f=true↔zcE f:=by unfold zhN;simp
theorem zfX (f:List Node):((zhM f).1==0)=zhN f:=by
 rw[Bool.eq_iff_iff,zhj]
 unfold zhM zcE
 by_cases h:4096<f.length
 ·rw[if_pos h];simp;omega
 ·rw[if_neg h]
  rcases e:(List.range f.length).findIdx? (fun k=> !(zjI f k))with _|k
  ·simp only[beq_self_eq_true,true_iff]
   rw[List.findIdx?_eq_none_iff]at e
   refine⟨by omega,fun k hk=> ?_⟩
   have:=e k (List.mem_range.2 hk)
   unfold zjI at this
   rw[List.getElem?_eq_getElem hk]at this
   simp only[Bool.not_eq_false',Bool.and_eq_true,Bool.not_eq_true']at this
   refine⟨this.1.1,this.1.2,fun hL=> ?_⟩
   rw[zfm.2 hL]at this
   exact absurd this.2 (by simp)
  ·simp only[show((5:Int)==0)=false from rfl,Bool.false_eq_true,false_iff]
   rw[List.findIdx?_eq_some_iff_getElem]at e
   obtain⟨g1,g2,-⟩:=e
   rw[List.length_range]at g1
   rw[List.getElem_range]at g2
   rintro⟨-,hall⟩
   obtain⟨a1,a2,a3⟩:=hall k g1
   unfold zjI at g2
   rw[List.getElem?_eq_getElem g1]at g2
   simp only[a1,a2,zhi a3]at g2
   cases g2
theorem zsL (f:List Node):(zhM f).1=if zhN f=true then 0 else 5:=by
 rw[←zfX]
 unfold zhM
 split
 ·rfl
 ·split<;>rfl
theorem zeJ (f:Forest) (hf:Fit f.nodes.l):pc prog 85 [zam f]=some (.bool (zhN f.nodes.l)):=by
 refine zKH f _ ?_
 unfold P85
 rw[zwU f hf,zaz (e:=eT2 (D.int .i64) (D.int .i64)),Option.bind_some,zfX]
noncomputable def zfB (f:List Node) (l:List Int):Int:=if zhN f=true then(if l.all (fun h=>decide (isN f h))=true then 0 else 2)else 5
theorem zwW (f:List Node) (l:List Int):(l.any fun h=> !(decide (isN f h)))= !(l.all fun h=>decide (isN f h)):=by rw[List.all_eq_not_any_not,Bool.not_not]
theorem znn (f:Forest) (l:Sl Int) (hf:Fit f.nodes.l) (hl:l.l.length≤2^40):pc prog 82 [zam f,.list l.n (l.l.map (D.int .i64))]=some (.int .i64 (zfB f.nodes.l l.l)):=by
 refine zKG f l _ ?_
 unfold P82 zfB
 rw[zwV f hf,zaz (e:=eT2 (D.int .i64) (D.int .i64)),Option.bind_some,zfX]
 rw[zlk (l:=l.l) (fun h=> !(decide (isN f.nodes.l h))) (Sum.inr ()) (Sum.inl ()) ?_ ?_,Option.bind_some]
 ·rw[zwW,zsL]
  cases zhN f.nodes.l<;>cases(l.l.all fun h=>decide (isN f.nodes.l h))<;>rfl
 ·intro k hk
  have hw:=zaU (show k<2^62 by omega)
  simp only[zdZ,zbi hk,Option.bind_some,hw,bor]
  rw[if_pos (decide_eq_true (by omega))]
  by_cases h1:isN f.nodes.l l.l[k]
  ·rw[if_neg (by unfold isN at h1;simp;omega),if_neg (by simp[h1])]
  ·rw[if_pos (by unfold isN at h1;simp;omega),if_pos (by simp[h1])]
 ·simp only[zdZ]
  rw[if_neg (by simp)]
end Go.Proofs.Ythodcjjgimeeoaa.P
