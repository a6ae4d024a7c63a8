/- Shaken copy of a longer text: what one law needs. Its conditions: none. -/
import Derived.Test.YthodcjjgimeeoaaGreatZPSpFo4
set_option linter.unusedSimpArgs false
set_option linter.unusedVariables false
set_option linter.unusedSimpArgs false
set_option linter.unusedVariables false
set_option linter.unusedSectionVars false
set_option linter.unnecessarySimpa false
namespace Go.Proofs.YthodcjjgimeeoaaGreat.P
open Go.AI
def isN (f:List Node) (h:Int):Prop:=1≤h∧h≤f.length
instance (f:List Node) (h:Int):Decidable (isN f h):=inferInstanceAs (Decidable (_∧_))
theorem znl {f:List Node} {h:Int}:(zcj f h).isSome=decide (isN f h):=by
 rcases e:zcj f h with _|n
 ·have:=zlU e
  rw[decide_eq_false];rfl
  rintro⟨h1,h2⟩;omega
 ·have:=zcx e
  rw[decide_eq_true];rfl
  exact⟨this.1,this.2.1⟩
def nx (f:List Node) (h:Int):Int:=zeJ (nodeD f h)
def itr (f:List Node):Nat→Int→Int
 |0,h=>h
 |k+1,h=>itr f k (nx f h)
theorem zfi (f:List Node):∀(a b:Nat) (h:Int),itr f (a+b) h=itr f b (itr f a h)
 |0,b,h=>by rw[Nat.zero_add];rfl
 |a+1,b,h=>by rw[Nat.add_right_comm];exact zfi f a b (nx f h)
theorem zsY (f:List Node) (k:Nat) (h:Int):itr f (k+1) h=nx f (itr f k h):=zfi f k 1 h
def zgB (f:List Node) (h:Int):Prop:=∀k,isN f (itr f k h)
theorem zpx {f:List Node} {h:Int} (k:Nat) (hl:zgB f h):zgB f (itr f k h):=fun j=>by rw[←zfi];exact hl _
theorem zkU {f:List Node} {h:Int} {a n:Nat} (hn:∀k,k<n→isN f (itr f k h)) (ha:a<n) (e:itr f a h=itr f n h):zgB f h:=by
 intro k
 induction k using Nat.strongRecOn with
 |_ k ih=>
  rcases Nat.lt_or_ge k n with h1|h1
  ·exact hn k h1
  ·have:itr f k h=itr f (a+(k-n)) h:=by
    rw[zfi,e,←zfi];congr 1;omega
   rw[this];exact ih _ (by omega)
theorem zlY {f:List Node} {h:Int} (hn:∀k,k<f.length+1→isN f (itr f k h)):zgB f h:=by
 have hex:∃a n,a<n∧n<f.length+1∧itr f a h=itr f n h:=by
  refine Classical.byContradiction fun hno=> ?_
  have hnd:((List.range (f.length+1)).map fun k=>itr f k h).Nodup:=by
   rw[List.nodup_iff_pairwise_ne,List.pairwise_iff_getElem]
   intro i j hi hj hij e
   simp only[List.getElem_map,List.getElem_range]at e
   simp only[List.length_map,List.length_range]at hi hj
   exact hno ⟨i,j,hij,hj,e⟩
  have hsub:((List.range (f.length+1)).map fun k=>itr f k h)⊆((List.range f.length).map fun k:Nat=>((k:Int)+1)):=by
   intro x hx
   rw[List.mem_map]at hx⊢
   obtain⟨k,hk,rfl⟩:=hx
   rw[List.mem_range]at hk
   have:=hn k hk
   unfold isN at this
   refine⟨(itr f k h-1).toNat,?_,by omega⟩
   rw[List.mem_range];omega
  have:=hnd.length_le_of_subset hsub
  simp at this
  omega
 obtain⟨a,n,h1,h2,h3⟩:=hex
 exact zkU (fun k hk=>hn k (by omega)) h1 h3
open Classical in
noncomputable def zeK (f:List Node) (h:Int):Bool:=decide (zgB f h)
theorem zgp {f:List Node} {h:Int}:zeK f h=true↔zgB f h:=by unfold zeK;simp
theorem ziI {f:List Node} {h:Int} (hl:¬zgB f h):zeK f h=false:=by
 rcases e:zeK f h with _|_
 ·rfl
 ·exact absurd (zgp.1 e) hl
theorem zrw {g:Nat→Int} {n:Nat} {x:Int}:x∈(List.range (n+1)).map g↔x∈(List.range n).map g∨x=g n:=by
 rw[List.range_succ,List.map_append,List.mem_append];simp
theorem zEe (f:Forest) (h:Int) (hf:f.nodes.l.length≤2^40):pc prog 113 [zaa f,.int .i64 h]=some (.bool (zeK f.nodes.l h)):=by
 refine zOI f h _ ?_
 unfold zOH
 have key:∀n k,k+n=f.nodes.l.length+1→(∀j,j<k→isN f.nodes.l (itr f.nodes.l j h))→zaL (zcr f) (itr f.nodes.l k h,(k:Int))=some (if zeK f.nodes.l h=true then .inl ()else .inr ()):=by
  intro n
  induction n with
  |zero=>
   intro k hk hj
   obtain rfl:k=f.nodes.l.length+1:=by omega
   have hl:zeK f.nodes.l h=true:=zgp.2 (zlY hj)
   rw[if_pos hl]
   refine zau ?_
   simp only[zcr]
   rw[if_neg (by simp;omega)]
  |succ n ih=>
   intro k hk hj
   have hw:=zaK (show k<2^62 by omega)
   by_cases hN:isN f.nodes.l (itr f.nodes.l k h)
   ·rw[zaC (y:=(itr f.nodes.l (k+1) h,((k+1:Nat):Int)))]
    ·refine ih (k+1) (by omega) ?_
     intro j hj2
     rcases Nat.lt_or_ge j k with h1|h1
     ·exact hj j h1
     ·rw[show j=k by omega];exact hN
    ·simp only[zcr,zhK f _ hf,zap (e:=eT2 zao D.bool),Option.bind_some,znl,zzP,zap (e:=D.int .i64),hw]
     rw[if_pos (decide_eq_true (by omega)),if_neg (by simp[hN]),zsY]
     rfl
   ·have hl:zeK f.nodes.l h=false:=ziI fun hl=>hN (hl k)
    rw[hl,if_neg (by simp)]
    refine zau ?_
    simp only[zcr,zhK f _ hf,zap (e:=eT2 zao D.bool),Option.bind_some,znl]
    rw[if_pos (decide_eq_true (by omega)),if_pos (by simp[hN])]
 have:=key (f.nodes.l.length+1) 0 (by omega) (fun j hj=>absurd hj (Nat.not_lt_zero _))
 rw[show((0:Nat):Int)=0 from rfl]at this
 rw[show itr f.nodes.l 0 h=h from rfl]at this
 rw[this]
 cases zeK f.nodes.l h<;>rfl
def gt (st:List Int) (x:Int):Int:=st.getD x.toNat 0
theorem zlZ {st:List Int} {n:Nat} {x:Int} (hl:st.length=n) (h0:0≤x) (h1:x.toNat<n):rdA st n x=some (gt st x):=by
 unfold rdA gt
 rw[if_pos ⟨h0,h1⟩,List.getD_eq_getElem?_getD,List.getElem?_eq_getElem (by omega)];rfl
theorem zAa {α:Type} {l:List α} {k:Nat} (h:k<l.length):rdA l l.length (k:Int)=some l[k]:=by
 unfold rdA
 rw[if_pos ⟨by omega,by omega⟩];simp[h]
theorem zFl {st:List Int} {x y c:Int} (h0:0≤x) (h1:x.toNat<st.length) (hy:0≤y):gt (st.set x.toNat c) y=if y=x then c else gt st y:=by
 unfold gt
 simp only[List.getD_eq_getElem?_getD,List.getElem?_set]
 by_cases e:y=x
 ·subst e;rw[if_pos rfl,if_pos rfl];simp[h1]
 ·rw[if_neg e,if_neg (by omega)]
theorem zpy {step:List Int×Int→Option ((List Int×Int)⊕List Int)} {way:List Int} {n:Nat} {c:Int} (hw:∀x∈way,0≤x∧x.toNat<n)
 (h:∀k (hk:k<way.length) st,st.length=n→step (st,(k:Int))=some (.inl (st.set (way[k]).toNat c,((k+1:Nat):Int))))
 (he:∀st,st.length=n→step (st,(way.length:Int))=some (.inr st)) (st:List Int) (hs:st.length=n):∃st',zaL step (st,0)=some st'∧st'.length=n∧∀x,0≤x→gt st' x=if x∈way then c else gt st x:=by
 have key:∀m k,k+m=way.length→∀st:List Int,st.length=n→∃st',zaL step (st,(k:Int))=some st'∧st'.length=n∧∀x,0≤x→gt st' x=if x∈way.drop k then c else gt st x:=by
  intro m
  induction m with
  |zero=>
   intro k hk st hs
   obtain rfl:k=way.length:=by omega
   exact⟨st,zau (he st hs),hs,fun x _=>by rw[List.drop_length,if_neg (by simp)]⟩
  |succ m ih=>
   intro k hk st hs
   have hlt:k<way.length:=by omega
   obtain⟨st',h1,h2,h3⟩:=ih (k+1) (by omega) (st.set (way[k]).toNat c) (by rw[List.length_set];exact hs)
   refine⟨st',by rw[zaC (h k hlt st hs)];exact h1,h2,fun x hx=> ?_⟩
   have:=hw _ (List.getElem_mem hlt)
   rw[h3 x hx,List.drop_eq_getElem_cons hlt,zFl this.1 (by omega) hx]
   by_cases e1:x∈way.drop (k+1)
   ·rw[if_pos e1,if_pos (List.mem_cons_of_mem _ e1)]
   ·rw[if_neg e1]
    by_cases e2:x=way[k]
    ·rw[if_pos e2,if_pos (by rw[e2];exact List.mem_cons_self)]
    ·rw[if_neg e2,if_neg (by rw[List.mem_cons];rintro(e|e);exact e2 e;exact e1 e)]
 exact key way.length 0 (by omega) st hs
theorem zHM (f:Forest) (hf:f.nodes.l.length≤4096) (x0:List Int×Int) (st0:List Int) (s:Int):∀(m n:Nat) (st:List Int),st.length=f.nodes.l.length+1→st.count 0≤m→n+m≤f.nodes.l.length+1→
 (∀x,0≤x→gt st x=if x∈(List.range n).map (fun i=>itr f.nodes.l i s)then 1 else gt st0 x)→(∀i,i<n→isN f.nodes.l (itr f.nodes.l i s)∧gt st0 (itr f.nodes.l i s)=0)→
 ∃n' st',n'≤f.nodes.l.length+1∧zaL (zbV f x0) (st,(List.range n).map (fun i=>itr f.nodes.l i s),itr f.nodes.l n s)=some ((List.range n').map (fun i=>itr f.nodes.l i s),itr f.nodes.l n' s,st')∧st'.length=f.nodes.l.length+1∧
  (∀x,0≤x→gt st' x=if x∈(List.range n').map (fun i=>itr f.nodes.l i s)then 1 else gt st0 x)∧(∀i,i<n'→isN f.nodes.l (itr f.nodes.l i s)∧gt st0 (itr f.nodes.l i s)=0)∧(isN f.nodes.l (itr f.nodes.l n' s)→gt st' (itr f.nodes.l n' s)≠0):=by
 intro m
 induction m with
 |zero=>
  intro n st hl hc hn hi hj
  refine⟨n,st,by omega,zau ?_,hl,hi,hj,?_⟩
  ·simp only[zbV,zpU]
   by_cases hN:isN f.nodes.l (itr f.nodes.l n s)
   ·have hN':=hN
    unfold isN at hN'
    have hne:gt st (itr f.nodes.l n s)≠0:=by
     intro e
     have h0:st.count 0=0:=by omega
     rw[List.count_eq_zero]at h0
     apply h0
     unfold gt at e
     rw[List.getD_eq_getElem?_getD,List.getElem?_eq_getElem (by omega)]at e
     rw[←e];exact List.getElem_mem _
    rw[if_pos (by simp;omega),w64 (by omega) (by omega),zlZ (by omega) (by omega) (by omega),Option.bind_some,if_neg (by simpa using hne)]
   ·unfold isN at hN
    rw[if_neg (by simp;omega)]
  ·intro hN e
   have h0:st.count 0=0:=by omega
   rw[List.count_eq_zero]at h0
   apply h0
   unfold isN at hN
   unfold gt at e
   rw[List.getD_eq_getElem?_getD,List.getElem?_eq_getElem (by omega)]at e
   rw[←e];exact List.getElem_mem _
 |succ m ih=>
  intro n st hl hc hn hi hj
  by_cases hN:isN f.nodes.l (itr f.nodes.l n s)
  ·have hN':=hN
   unfold isN at hN'
   have hrd:rdA st (f.nodes.l.length+1) (itr f.nodes.l n s)=some (gt st (itr f.nodes.l n s)):=zlZ hl (by omega) (by omega)
   have hwr:(IntKind.wrap .i64 ((f.nodes.l.length:Int)+1)).toNat=f.nodes.l.length+1:=by rw[w64 (by omega) (by omega)];omega
   by_cases h0:gt st (itr f.nodes.l n s)=0
   ·obtain⟨nd,hnd⟩:=zjS hN.1 hN.2
    have hmem:(itr f.nodes.l n s)∉(List.range n).map (fun i=>itr f.nodes.l i s):=by
     intro hm
     have:=hi _ (show 0≤itr f.nodes.l n s by omega)
     rw[if_pos hm,h0]at this;cases this
    have hstep:zbV f x0 (st,(List.range n).map (fun i=>itr f.nodes.l i s),itr f.nodes.l n s)=some (.inl (st.set (itr f.nodes.l n s).toNat 1,(List.range (n+1)).map (fun i=>itr f.nodes.l i s),itr f.nodes.l (n+1) s)):=by
     simp only[zbV,zpU]
     rw[if_pos (by simp;omega),hwr,hrd,Option.bind_some,if_pos (by simpa using h0),if_pos (by have:AI.roomBytes=2^46:=rfl;simp;omega),w64 (by omega) (by omega),ziG hnd,Option.bind_some,zzQ,zap (e:=D.int .i64),Option.bind_some,List.range_succ,List.map_append,zsY]
     unfold nx nodeD
     rw[hnd];rfl
    rw[zaC hstep]
    refine ih (n+1) _ (by rw[List.length_set];exact hl) ?_ (by omega) ?_ ?_
    ·rw[List.count_set (by omega)]
     have hz:st[(itr f.nodes.l n s).toNat]'(by omega)=0:=by
      unfold gt at h0
      rw[List.getD_eq_getElem?_getD,List.getElem?_eq_getElem (by omega)]at h0
      exact h0
     simp only[hz]
     have hp:0<st.count 0:=List.count_pos_iff.2 (by rw[←hz];exact List.getElem_mem _)
     simp
     omega
    ·intro x hx
     rw[zFl (by omega) (by omega) hx,hi x hx]
     by_cases e:x=itr f.nodes.l n s
     ·rw[if_pos e,if_pos (zrw.2 (Or.inr e))]
     ·rw[if_neg e]
      by_cases e2:x∈(List.range n).map (fun i=>itr f.nodes.l i s)
      ·rw[if_pos e2,if_pos (zrw.2 (Or.inl e2))]
      ·rw[if_neg e2,if_neg (by rw[zrw];rintro(h|h);exact e2 h;exact e h)]
    ·intro i hi2
     rcases Nat.lt_or_ge i n with h1|h1
     ·exact hj i h1
     ·obtain rfl:i=n:=by omega
      refine⟨hN,?_⟩
      have:=hi _ (show 0≤itr f.nodes.l i s by omega)
      rw[if_neg hmem,h0]at this
      exact this.symm
   ·refine⟨n,st,by omega,zau ?_,hl,hi,hj,fun _=>h0⟩
    simp only[zbV,zpU]
    rw[if_pos (by simp;omega),hwr,hrd,Option.bind_some,if_neg (by simpa using h0)]
  ·refine⟨n,st,by omega,zau ?_,hl,hi,hj,fun h=>absurd h hN⟩
   simp only[zbV,zpU]
   unfold isN at hN
   rw[if_neg (by simp;omega)]
end Go.Proofs.YthodcjjgimeeoaaGreat.P
