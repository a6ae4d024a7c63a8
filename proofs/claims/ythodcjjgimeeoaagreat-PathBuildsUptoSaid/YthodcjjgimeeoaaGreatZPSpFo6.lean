/- Shaken copy of a longer text: what one law needs. Its conditions: none. -/
import Derived.Test.YthodcjjgimeeoaaGreatZPSpFo5
set_option linter.unusedSimpArgs false
set_option linter.unusedVariables false
set_option linter.unusedSimpArgs false
set_option linter.unusedVariables false
set_option linter.unusedSectionVars false
set_option linter.unnecessarySimpa false
namespace Go.Proofs.YthodcjjgimeeoaaGreat.P
open Go.AI
theorem zhd {f:List Node} {s x:Int} {n:Nat}:x∈(List.range n).map (fun i=>itr f i s)↔∃a,a<n∧x=itr f a s:=by
 rw[List.mem_map]
 constructor
 ·rintro⟨a,ha,rfl⟩;exact⟨a,List.mem_range.1 ha,rfl⟩
 ·rintro⟨a,ha,rfl⟩;exact⟨a,List.mem_range.2 ha,rfl⟩
def Col (f:List Node) (i:Int) (st:List Int):Prop:=st.length=f.length+1∧∀x,isN f x→(gt st x=0∧i<x)∨(gt st x=2∧¬zgB f x)∨(gt st x=3∧zgB f x)
theorem zAb (f:Forest) (hf:f.nodes.l.length≤4096) (st:List Int) (i:Nat) (hi:i<f.nodes.l.length) (hc:Col f.nodes.l i st):∃st2,zcq f (st,(i:Int))=some (.inl (st2,((i+1:Nat):Int)))∧Col f.nodes.l ((i+1:Nat):Int) st2:=by
 have hw:=zaK (show i<2^62 by omega)
 obtain⟨n,st',hnl,h1,h2,h3,h4,h5⟩:=zHM f hf (st,(i:Int)) st ((i+1:Nat):Int) (f.nodes.l.length+1) 0 st hc.1 (by rw[←hc.1];exact List.count_le_length) (by omega) (fun x _=>by simp) (fun i hi=>absurd hi (Nat.not_lt_zero _))
 rw[show(List.range 0).map (fun j=>itr f.nodes.l j ((i+1:Nat):Int))=[]from rfl,show itr f.nodes.l 0 ((i+1:Nat):Int)=((i+1:Nat):Int)from rfl]at h1
 simp only[zcq,hw]
 rw[if_pos (decide_eq_true (by omega)),h1,Option.bind_some]
 dsimp only
 have hwr:(IntKind.wrap .i64 ((f.nodes.l.length:Int)+1)).toNat=f.nodes.l.length+1:=by rw[w64 (by omega) (by omega)];omega
 generalize hs:((i+1:Nat):Int)=s at*
 have hwy:∀x∈(List.range n).map (fun i=>itr f.nodes.l i s),0≤x∧x.toNat<f.nodes.l.length+1:=by
  intro x hx
  obtain⟨a,ha,rfl⟩:=zhd.1 hx
  have:=(h4 a ha).1
  unfold isN at this
  omega
 have hsx:¬(s∈(List.range n).map (fun i=>itr f.nodes.l i s))→itr f.nodes.l n s=s:=by
  intro hm
  rcases n with _|n
  ·rfl
  ·exact absurd (zhd.2 ⟨0,by omega,rfl⟩) hm
 have hsN:isN f.nodes.l s:=by unfold isN;omega
 have hkeep:∀x,isN f.nodes.l x→x∉(List.range n).map (fun i=>itr f.nodes.l i s)→(gt st' x=0∧s<x)∨(gt st' x=2∧¬zgB f.nodes.l x)∨(gt st' x=3∧zgB f.nodes.l x):=by
  intro x hx hm
  have hg:=h3 x (by unfold isN at hx;omega)
  rw[if_neg hm]at hg
  rw[hg]
  rcases hc.2 x hx with⟨e1,e2⟩|e|e
  ·left
   refine⟨e1,?_⟩
   by_cases hl:s<x
   ·exact hl
   ·exfalso
    obtain rfl:x=s:=by omega
    have he:=hsx hm
    rw[he]at h5
    exact h5 hx (by rw[hg];exact e1)
  ·exact .inr (.inl e)
  ·exact .inr (.inr e)
 by_cases hN:isN f.nodes.l (itr f.nodes.l n s)
 ·have hN':=hN
  unfold isN at hN'
  rw[if_pos (by simp only[zpU];simp;omega),hwr,zlZ h2 (by omega) (by omega),Option.bind_some]
  have hcol:∃c,(if(!(gt st' (itr f.nodes.l n s)==2))=true then some 3 else some 2:Option Int)=some c∧∀x,isN f.nodes.l x→x∈(List.range n).map (fun i=>itr f.nodes.l i s)→(c=2∧¬zgB f.nodes.l x)∨(c=3∧zgB f.nodes.l x):=by
   by_cases hm:itr f.nodes.l n s∈(List.range n).map (fun i=>itr f.nodes.l i s)
   ·have hg:=h3 _ (show 0≤itr f.nodes.l n s by omega)
    rw[if_pos hm]at hg
    refine⟨3,by rw[hg];rfl,fun x hx hxm=> ?_⟩
    obtain⟨a,ha,e⟩:=zhd.1 hm
    obtain⟨b,hb,rfl⟩:=zhd.1 hxm
    exact .inr ⟨rfl,zpx b (zkU (fun k hk=>(h4 k hk).1) ha e.symm)⟩
   ·have h0:=h5 hN
    rcases hkeep _ hN hm with⟨e1,e2⟩|⟨e1,e2⟩|⟨e1,e2⟩
    ·exact absurd e1 h0
    ·refine⟨2,by rw[e1];rfl,fun x hx hxm=> ?_⟩
     obtain⟨b,hb,rfl⟩:=zhd.1 hxm
     refine .inl ⟨rfl,fun hL=>e2 ?_⟩
     have:=zpx (n-b) hL
     rwa [←zfi,show b+(n-b)=n by omega]at this
    ·refine⟨3,by rw[e1];rfl,fun x hx hxm=> ?_⟩
     obtain⟨b,hb,rfl⟩:=zhd.1 hxm
     refine .inr ⟨rfl,fun k=> ?_⟩
     rcases Nat.lt_or_ge (b+k) n with g|g
     ·rw[←zfi];exact(h4 _ g).1
     ·have:=e2 (b+k-n)
      rw[←zfi]at this⊢
      rwa [show n+(b+k-n)=b+k by omega]at this
  obtain⟨c,hc1,hc2⟩:=hcol
  rw[hc1,Option.bind_some]
  have q1:∀k (hk:k<((List.range n).map (fun i=>itr f.nodes.l i s)).length) (st3:List Int),st3.length=f.nodes.l.length+1→zcg f (st,(i:Int)) ((List.range n).map (fun i=>itr f.nodes.l i s),itr f.nodes.l n s,st') c (st3,(k:Int))=some (.inl (st3.set (((List.range n).map (fun i=>itr f.nodes.l i s))[k]).toNat c,((k+1:Nat):Int))):=by
   intro k hk st3 h33
   have hm:=hwy _ (List.getElem_mem hk)
   have hkl:k<n:=by simpa using hk
   have hw2:=zaK (show k<2^62 by omega)
   simp only[zcg,hw2]
   rw[if_pos (decide_eq_true (by omega)),zAa hk,Option.bind_some,hwr,zlZ h33 hm.1 hm.2]
   try rfl
  have q2:∀st3:List Int,st3.length=f.nodes.l.length+1→zcg f (st,(i:Int)) ((List.range n).map (fun i=>itr f.nodes.l i s),itr f.nodes.l n s,st') c (st3,(((List.range n).map (fun i=>itr f.nodes.l i s)).length:Int))=some (.inr st3):=by
   intro st3 h33
   simp only[zcg]
   try rw[if_neg (by simp)]
  obtain⟨st2,g1,g2,g3⟩:=zpy (step:=zcg f (st,(i:Int)) ((List.range n).map (fun i=>itr f.nodes.l i s),itr f.nodes.l n s,st') c) (c:=c) hwy q1 q2 st' h2
  rw[g1,Option.bind_some]
  refine⟨st2,rfl,g2,fun x hx=> ?_⟩
  have hx':=hx
  unfold isN at hx'
  rw[g3 x (by omega)]
  by_cases hm:x∈(List.range n).map (fun i=>itr f.nodes.l i s)
  ·rw[if_pos hm];exact .inr (hc2 x hx hm)
  ·rw[if_neg hm];exact hkeep x hx hm
 ·rw[if_neg (by simp only[zpU];unfold isN at hN;simp;omega)]
  have hall:∀x,x∈(List.range n).map (fun i=>itr f.nodes.l i s)→¬zgB f.nodes.l x:=by
   intro x hxm hL
   obtain⟨b,hb,rfl⟩:=zhd.1 hxm
   have:=hL (n-b)
   rw[←zfi,show b+(n-b)=n by omega]at this
   exact hN this
  have q1:∀k (hk:k<((List.range n).map (fun i=>itr f.nodes.l i s)).length) (st3:List Int),st3.length=f.nodes.l.length+1→zch f (st,(i:Int)) ((List.range n).map (fun i=>itr f.nodes.l i s),itr f.nodes.l n s,st') (st3,(k:Int))=some (.inl (st3.set (((List.range n).map (fun i=>itr f.nodes.l i s))[k]).toNat 2,((k+1:Nat):Int))):=by
   intro k hk st3 h33
   have hm:=hwy _ (List.getElem_mem hk)
   have hkl:k<n:=by simpa using hk
   have hw2:=zaK (show k<2^62 by omega)
   simp only[zch,hw2]
   rw[if_pos (decide_eq_true (by omega)),zAa hk,Option.bind_some,hwr,zlZ h33 hm.1 hm.2]
   try rfl
  have q2:∀st3:List Int,st3.length=f.nodes.l.length+1→zch f (st,(i:Int)) ((List.range n).map (fun i=>itr f.nodes.l i s),itr f.nodes.l n s,st') (st3,(((List.range n).map (fun i=>itr f.nodes.l i s)).length:Int))=some (.inr st3):=by
   intro st3 h33
   simp only[zch]
   try rw[if_neg (by simp)]
  obtain⟨st2,g1,g2,g3⟩:=zpy (step:=zch f (st,(i:Int)) ((List.range n).map (fun i=>itr f.nodes.l i s),itr f.nodes.l n s,st')) (c:=2) hwy q1 q2 st' h2
  rw[g1,Option.bind_some]
  refine⟨st2,rfl,g2,fun x hx=> ?_⟩
  have hx':=hx
  unfold isN at hx'
  rw[g3 x (by omega)]
  by_cases hm:x∈(List.range n).map (fun i=>itr f.nodes.l i s)
  ·rw[if_pos hm];exact .inr (.inl ⟨rfl,hall x hm⟩)
  ·rw[if_neg hm];exact hkeep x hx hm
theorem zEf (f:Forest) (hf:f.nodes.l.length≤4096):∃r:List Bool,pc prog 104 [zaa f]=some (eSl D.bool ⟨false,r⟩)∧∀h,isN f.nodes.l h→rd r h=some (!zeK f.nodes.l h):=by
 have hwr:IntKind.wrap .i64 ((f.nodes.l.length:Int)+1)=((f.nodes.l.length+1:Nat):Int):=by rw[w64 (by omega) (by omega)];omega
 have hwr2:(IntKind.wrap .i64 ((f.nodes.l.length:Int)+1)).toNat=f.nodes.l.length+1:=by rw[hwr];omega
 have hroom:AI.roomBytes=2^46:=rfl
 have hA:∀m i,i+m=f.nodes.l.length→∀st,Col f.nodes.l (i:Int) st→∃st',zaL (zcq f) (st,(i:Int))=some st'∧Col f.nodes.l (f.nodes.l.length:Int) st':=by
  intro m
  induction m with
  |zero=>
   intro i hi st hc
   obtain rfl:i=f.nodes.l.length:=by omega
   refine⟨st,zau ?_,hc⟩
   simp only[zcq]
   rw[if_neg (by simp)]
  |succ m ih=>
   intro i hi st hc
   obtain⟨st2,h1,h2⟩:=zAb f hf st i (by omega) hc
   obtain⟨st3,h3,h4⟩:=ih (i+1) (by omega) st2 h2
   exact⟨st3,by rw[zaC h1];exact h3,h4⟩
 obtain⟨st,hs1,hs2⟩:=hA f.nodes.l.length 0 (by omega) (List.replicate (f.nodes.l.length+1) 0) ⟨by simp,fun x hx=>by
  left
  unfold isN at hx
  refine⟨?_,by omega⟩
  unfold gt
  rw[List.getD_eq_getElem?_getD,List.getElem?_replicate]
  split<;>rfl⟩
 have hB:∀m i,i+m=f.nodes.l.length+1→∀l:List Bool,l.length=f.nodes.l.length+1→∃l',zaL (zcW f st) (l,(i:Int))=some l'∧l'.length=f.nodes.l.length+1∧∀j:Nat,j<f.nodes.l.length+1→l'[j]? =if i≤j then some (gt st (j:Int)==2)else l[j]? :=by
  intro m
  induction m with
  |zero=>
   intro i hi l hl
   obtain rfl:i=f.nodes.l.length+1:=by omega
   refine⟨l,zau ?_,hl,fun j hj=>by rw[if_neg (by omega)]⟩
   simp only[zcW,hwr2]
   rw[if_neg (by simp)]
  |succ m ih=>
   intro i hi l hl
   have hw:=zaK (show i<2^62 by omega)
   obtain⟨l',h1,h2,h3⟩:=ih (i+1) (by omega) (l.set i (gt st (i:Int)==2)) (by rw[List.length_set];exact hl)
   refine⟨l',?_,h2,fun j hj=> ?_⟩
   ·rw[←h1]
    refine zaC ?_
    simp only[zcW,hwr2,hw]
    rw[if_pos (decide_eq_true (by omega)),zlZ hs2.1 (by omega) (by omega),Option.bind_some]
    unfold rdA
    rw[if_pos ⟨by omega,by omega⟩,List.getElem?_eq_getElem (by omega)];rfl
   ·rw[h3 j hj,List.getElem?_set]
    by_cases e:i=j
    ·subst e
     rw[if_neg (by omega),if_pos rfl,if_pos (by omega),if_pos (by omega)]
    ·by_cases e2:i+1≤j
     ·rw[if_pos e2,if_pos (by omega)]
     ·rw[if_neg e2,if_neg e,if_neg (by omega)]
 obtain⟨r,hr1,hr2,hr3⟩:=hB (f.nodes.l.length+1) 0 (by omega) (List.replicate (f.nodes.l.length+1) false) (by simp)
 refine⟨r,zOy f _ ?_,fun h hh=> ?_⟩
 ·unfold zOx
  rw[if_pos (by rw[hwr2,hroom];omega),hwr2]
  rw[show((List.replicate (f.nodes.l.length+1) 0,0):List Int×Int)=(List.replicate (f.nodes.l.length+1) 0,((0:Nat):Int))from rfl,hs1,Option.bind_some,if_pos (by rw[hroom];omega)]
  rw[show((List.replicate (f.nodes.l.length+1) false,0):List Bool×Int)=(List.replicate (f.nodes.l.length+1) false,((0:Nat):Int))from rfl,hr1,Option.bind_some,if_pos hr2]
 ·have hh':=hh
  unfold isN at hh'
  unfold rd
  rw[if_pos (by omega),hr3 _ (by omega),if_pos (Nat.zero_le _),show((h.toNat:Nat):Int)=h by omega]
  rcases hs2.2 h hh with⟨e1,e2⟩|⟨e1,e2⟩|⟨e1,e2⟩
  ·omega
  ·rw[e1,ziI e2];rfl
  ·rw[e1,zgp.2 e2];rfl
noncomputable def zlu (f:List Node) (k:Nat):Bool:=match f[k]? with|some n=>zlt n&&zgI f ((k:Int)+1) n&& !(zeK f ((k:Int)+1))|none=>true
noncomputable def zjo (f:List Node):Int×Int:=if 4096<f.length then(5,0)else match(List.range f.length).findIdx? (fun k=> !(zlu f k))with|some k=>(5,(k:Int)+1)|none=>(0,0)
theorem zAc (f:Forest) (hf:Fit f.nodes.l):pc prog 77 [zaa f]=some (eT2 (D.int .i64) (D.int .i64) (zjo f.nodes.l)):=by
 refine zQK f _ ?_
 unfold P77 zjo
 by_cases h:4096<f.nodes.l.length
 ·rw[if_pos (decide_eq_true (by omega)),if_pos h]
 ·rw[if_neg (by simp;omega),if_neg h]
  rw[zdX (l:=List.range f.nodes.l.length) (fun k=> !(zlu f.nodes.l k)) (fun k=>Sum.inr ((k:Int)+1)) (Sum.inl ()) ?_ ?_,Option.bind_some]
  ·rcases(List.range f.nodes.l.length).findIdx? (fun k=> !(zlu f.nodes.l k))with _|k<;>rfl
  ·intro k hk
   simp only[List.length_range]at hk
   have hw:=zaK (show k<2^62 by omega)
   have hm:f.nodes.l[k]∈f.nodes.l:=List.getElem_mem hk
   have hwk:IntKind.wrap .i64 ((k:Int)+1)=(k:Int)+1:=by rw[hw];omega
   have hnd:=zpo hk
   simp only[zeI,zbd hk,Option.bind_some,hwk,zEc _ (hf.2 _ hm).1,zap (e:=D.bool),zzY f _ _ hf hnd,zEe f _ hf.1,List.getElem_range]
   rw[if_pos (decide_eq_true (by omega))]
   simp only[zFk]
   unfold zlu
   rw[List.getElem?_eq_getElem hk]
   dsimp only
   rw[show((k+1:Nat):Int)=(k:Int)+1 by omega]
   generalize zlt f.nodes.l[k]=b1
   generalize zgI f.nodes.l ((k:Int)+1) f.nodes.l[k]=b2
   generalize zeK f.nodes.l ((k:Int)+1)=b3
   cases b1<;>cases b2<;>cases b3<;>rfl
  ·simp only[zeI]
   rw[if_neg (by simp)]
theorem zAd (f:Forest) (hf:Fit f.nodes.l):pc prog 61 [zaa f]=some (eT2 (D.int .i64) (D.int .i64) (zjo f.nodes.l)):=by
 refine zQJ f _ ?_
 unfold P61 zjo
 by_cases h:4096<f.nodes.l.length
 ·rw[if_pos (decide_eq_true (by omega)),if_pos h]
 ·rw[if_neg (by simp;omega),if_neg h]
  obtain⟨r,hr,hr2⟩:=zEf f (by omega)
  rw[hr,zap (e:=eSl D.bool),Option.bind_some]
  rw[zdX (l:=List.range f.nodes.l.length) (fun k=> !(zlu f.nodes.l k)) (fun k=>Sum.inr ((k:Int)+1)) (Sum.inl ()) ?_ ?_,Option.bind_some]
  ·rcases(List.range f.nodes.l.length).findIdx? (fun k=> !(zlu f.nodes.l k))with _|k<;>rfl
  ·intro k hk
   simp only[List.length_range]at hk
   have hw:=zaK (show k<2^62 by omega)
   have hm:f.nodes.l[k]∈f.nodes.l:=List.getElem_mem hk
   have hwk:IntKind.wrap .i64 ((k:Int)+1)=(k:Int)+1:=by rw[hw];omega
   have hnd:=zpo hk
   simp only[zeH,zbd hk,Option.bind_some,hwk,zEb _ (hf.2 _ hm).1,zap (e:=D.bool),zzZ f _ _ hf hnd,hr2 _ (show isN f.nodes.l ((k:Int)+1) by unfold isN;omega),List.getElem_range]
   rw[if_pos (decide_eq_true (by omega))]
   simp only[zFk]
   unfold zlu
   rw[List.getElem?_eq_getElem hk]
   dsimp only
   rw[show((k+1:Nat):Int)=(k:Int)+1 by omega]
   generalize zlt f.nodes.l[k]=b1
   generalize zgI f.nodes.l ((k:Int)+1) f.nodes.l[k]=b2
   generalize zeK f.nodes.l ((k:Int)+1)=b3
   cases b1<;>cases b2<;>cases b3<;>rfl
  ·simp only[zeH]
   rw[if_neg (by simp)]
def zaJ (f:List Node):Prop:=f.length≤4096∧∀k (hk:k<f.length),zlt f[k]=true∧zgI f ((k:Int)+1) f[k]=true∧¬zgB f ((k:Int)+1)
open Classical in
noncomputable def zfn (f:List Node):Bool:=decide (zaJ f)
theorem zdv {f:List Node}:zfn f=true↔zaJ f:=by unfold zfn;simp
theorem zhe (f:List Node):((zjo f).1==0)=zfn f:=by
 rw[Bool.eq_iff_iff,zdv]
 unfold zjo zaJ
 by_cases h:4096<f.length
 ·rw[if_pos h];simp;omega
 ·rw[if_neg h]
  rcases e:(List.range f.length).findIdx? (fun k=> !(zlu f k))with _|k
  ·simp only[beq_self_eq_true,true_iff]
   rw[List.findIdx?_eq_none_iff]at e
   refine⟨by omega,fun k hk=> ?_⟩
   have:=e k (List.mem_range.2 hk)
   unfold zlu at this
   rw[List.getElem?_eq_getElem hk]at this
   simp only[Bool.not_eq_false',Bool.and_eq_true,Bool.not_eq_true']at this
   refine⟨this.1.1,this.1.2,fun hL=> ?_⟩
   rw[zgp.2 hL]at this
   exact absurd this.2 (by simp)
  ·simp only[show((5:Int)==0)=false from rfl,Bool.false_eq_true,false_iff]
   rw[List.findIdx?_eq_some_iff_getElem]at e
   obtain⟨g1,g2,-⟩:=e
   rw[List.length_range]at g1
   rw[List.getElem_range]at g2
   rintro⟨-,hall⟩
   obtain⟨a1,a2,a3⟩:=hall k g1
   unfold zlu at g2
   rw[List.getElem?_eq_getElem g1]at g2
   simp only[a1,a2,ziI a3]at g2
   cases g2
theorem zvx (f:List Node):(zjo f).1=if zfn f=true then 0 else 5:=by
 rw[←zhe]
 unfold zjo
 split
 ·rfl
 ·split<;>rfl
theorem zpz (f:Forest) (hf:Fit f.nodes.l):pc prog 33 [zaa f]=some (.bool (zfn f.nodes.l)):=by
 refine zQE f _ ?_
 unfold P33
 rw[zAc f hf,zap (e:=eT2 (D.int .i64) (D.int .i64)),Option.bind_some,zhe]
noncomputable def zbH (f:List Node) (l:List Int):Int:=if zfn f=true then(if l.all (fun h=>decide (isN f h))=true then 0 else 2)else 5
theorem zpA (f:List Node) (l:List Int):(l.any fun h=> !(decide (isN f h)))= !(l.all fun h=>decide (isN f h)):=by rw[List.all_eq_not_any_not,Bool.not_not]
theorem zpB (f:Forest) (l:Sl Int) (hf:Fit f.nodes.l) (hl:l.l.length≤2^40):pc prog 29 [zaa f,.list l.n (l.l.map (D.int .i64))]=some (.int .i64 (zbH f.nodes.l l.l)):=by
 refine zQH f l _ ?_
 unfold P29 zbH
 rw[zpz f hf,zap (e:=D.bool),Option.bind_some]
 rw[zgo (l:=l.l) (fun h=> !(decide (isN f.nodes.l h))) (Sum.inr ()) (Sum.inl ()) ?_ ?_,Option.bind_some]
 ·rw[zpA]
  cases zfn f.nodes.l<;>cases(l.l.all fun h=>decide (isN f.nodes.l h))<;>rfl
 ·intro k hk
  have hw:=zaK (show k<2^62 by omega)
  simp only[zeG,zbd hk,Option.bind_some,hw]
  rw[if_pos (decide_eq_true (by omega))]
  by_cases h1:l.l[k]<1
  ·rw[if_neg (by simp[h1]),if_pos (by rw[decide_eq_false (by unfold isN;omega)];rfl)]
  ·rw[if_pos (by simp[h1])]
   by_cases h2:(f.nodes.l.length:Int)<l.l[k]
   ·rw[if_pos (decide_eq_true h2),if_pos (by rw[decide_eq_false (by unfold isN;omega)];rfl)]
   ·rw[if_neg (by simpa using h2),if_neg (by rw[decide_eq_true (by unfold isN;omega)];simp)]
 ·simp only[zeG]
  rw[if_neg (by simp)]
theorem zhO (f:Forest) (l:Sl Int) (hf:Fit f.nodes.l) (hl:l.l.length≤2^40):pc prog 26 [zaa f,.list l.n (l.l.map (D.int .i64))]=some (.int .i64 (zbH f.nodes.l l.l)):=by
 refine zQD f l _ ?_
 unfold P26 zbH
 rw[zAd f hf,zap (e:=eT2 (D.int .i64) (D.int .i64)),Option.bind_some,zhe]
 rw[zgo (l:=l.l) (fun h=> !(decide (isN f.nodes.l h))) (Sum.inr ()) (Sum.inl ()) ?_ ?_,Option.bind_some]
 ·rw[zpA,zvx]
  cases zfn f.nodes.l<;>cases(l.l.all fun h=>decide (isN f.nodes.l h))<;>rfl
 ·intro k hk
  have hw:=zaK (show k<2^62 by omega)
  simp only[zeF,zbd hk,Option.bind_some,hw,bor]
  rw[if_pos (decide_eq_true (by omega))]
  by_cases h1:isN f.nodes.l l.l[k]
  ·rw[if_neg (by unfold isN at h1;simp;omega),if_neg (by simp[h1])]
  ·rw[if_pos (by unfold isN at h1;simp;omega),if_pos (by simp[h1])]
 ·simp only[zeF]
  rw[if_neg (by simp)]
end Go.Proofs.YthodcjjgimeeoaaGreat.P
