/- Shaken copy of a longer text: what one law needs. Its conditions: none. -/
import Derived.Test.YthodcjjgimeeoaaGreatZAiF
set_option linter.unusedSimpArgs false
set_option linter.unusedVariables false
set_option linter.unusedSectionVars false
set_option linter.unnecessarySimpa false
namespace Go.AI
theorem VR.trans {f g:Nat→Nat} {a b:V} (h:VR f a b):∀{c:V},VR g b c→VR (g∘f) a c:=by
 have ll:∀{l m:List V},(∀(j:Nat) x v,l[j]? =some x→m[j]? =some v→∀{c:V},VR g v c→VR (g∘f) x c)→m.length=l.length→∀{n:List V},VRL g m n→VRL (g∘f) l n:=by
  intro l m ih hl n hg
  refine⟨hg.len.trans hl,fun j x w hx hw=> ?_⟩
  have hj:j<m.length:=by
   rw[hl]
   rcases Nat.lt_or_ge j l.length with h1|h1
   ·exact h1
   ·rw[List.getElem?_eq_none h1]at hx;cases hx
  exact ih j x m[j] hx (List.getElem?_eq_getElem hj) (hg.get j _ _ (List.getElem?_eq_getElem hj) hw)
 induction h with
 |undef v=>intro c _;exact .undef _
 |d x=>intro c hc;rw[hc.d_inv];exact .d _
 |ptr=>intro c hc;rw[hc.ptr_inv];exact .ptr ..
 |rp=>intro c hc;rw[hc.rp_inv];exact .rp ..
 |sl=>intro c hc;rw[hc.sl_inv];exact .sl ..
 |map=>intro c hc;rw[hc.map_inv];exact .map _
 |it=>intro c hc;rw[hc.it_inv];exact .it _
 |yld=>intro c hc;rw[hc.yld_inv];exact .yld _
 |agg hl _ ih=>
  intro c hc
  cases hc with
  |agg h1 h2=>exact(ll ih hl ⟨h1,h2⟩).agg
  |aggd h1 h2=>have:=ll ih hl ⟨h1,h2⟩;exact .aggd this.len this.get
 |aggd hl _ ih=>intro c hc;rw[hc.d_inv];have:=ll ih hl (VRL.dd _);exact .aggd this.len this.get
 |tuple hl _ ih=>
  intro c hc
  cases hc with
  |tuple h1 h2=>exact(ll ih hl ⟨h1,h2⟩).tuple
  |tupled h1 h2=>have:=ll ih hl ⟨h1,h2⟩;exact .tupled this.len this.get
 |tupled hl _ ih=>intro c hc;rw[hc.d_inv];have:=ll ih hl (VRL.dd _);exact .tupled this.len this.get
 |clo hl _ hl2 _ ih1 ih2=>
  intro c hc
  obtain⟨a',b',rfl,h1,h2⟩:=hc.clo_inv
  have k1:=ll ih1 hl h1
  have k2:=ll ih2 hl2 h2
  exact .clo k1.len k1.get k2.len k2.get
theorem VRL.trans {f g:Nat→Nat} {l m n:List V} (h:VRL f l m) (k:VRL g m n):VRL (g∘f) l n:=by
 induction l generalizing m n with
 |nil=>have:=h.nil_inv;subst this;rw[k.nil_inv];exact .nil
 |cons x l ih=>
  obtain⟨v,m',rfl,h1,h2⟩:=h.cons_inv
  obtain⟨w,n',rfl,k1,k2⟩:=k.cons_inv
  exact .cons (h1.trans k1) (ih h2 k2)
theorem MRL.trans {f g:Nat→Nat} {l m:List (D×V×Nat)} (h:MRL f l m):∀{n:List (D×V×Nat)},MRL g m n→MRL (g∘f) l n:=by
 induction h with
 |nil=>intro n k;cases k;exact .nil
 |cons a _ ih=>intro n k;cases k with|cons b t=>exact .cons ⟨b.1.trans a.1,a.2.1.trans b.2.1,b.2.2.trans a.2.2⟩ (ih t)
theorem BR.trans {f g:Nat→Nat} {a b c:Blk} (h:BR f a b) (k:BR g b c):BR (g∘f) a c:=by
 cases h with
 |els hz h=>cases k with|els hz' k=>exact .els (Nat.le_trans hz' hz) (h.trans k)
 |map h=>cases k with|map k=>exact .map (h.trans k)
 |it=>cases k with|it=>exact .it ..
 |loop a b c d e f g h=>cases k with|loop a' b' c' d' e' f' g' h'=>exact .loop (fun t=>(a t).trans (a' t)) (b'.trans b) (c'.trans c) (d'.trans d) (e'.trans e) (f'.trans f) g h
theorem HR.trans {E E':Nat→Option Blk} {f g:Nat→Nat} {a b c:Heap} (h:HR E f a b) (k:HR E' g b c):HR c.get (g∘f) a c where
 out:=fun _ _=>rfl
 blk:=fun i x hx=>by
  obtain⟨y,h1,h2⟩:=h.blk i x hx
  obtain⟨z,h3,h4⟩:=k.blk (f i) y h1
  exact⟨z,h3,h2.trans h4⟩
 next:=fun i=>by show g (f _)=_;rw[h.next,k.next]
 inj:=fun i j e=>h.inj _ _ (k.inj _ _ e)
theorem SR.trans {E E':Nat→Option Blk} {f g:Nat→Nat} {a b c:St} (h:SR E f a b) (k:SR E' g b c):SR c.h.get (g∘f) a c:=⟨fun t=>(h.r t).trans (k.r t),h.h.trans k.h⟩
abbrev Fx:=Nat×List Nat
def Fx.has (z:Fx) (b:Nat):Prop:=b<z.1∧z.2.contains b=false
instance (z:Fx) (b:Nat):Decidable (z.has b):=inferInstanceAs (Decidable (_∧_))
def Fx.le (z z':Fx):Bool:=decide (z.1≤z'.1)&&z'.2.all fun x=>z.2.contains x||decide (z.1≤x)
theorem Fx.le_has {z z':Fx} (h:z.le z'=true) {b:Nat} (hb:z.has b):z'.has b:=by
 simp only[Fx.le,Bool.and_eq_true,decide_eq_true_eq,List.all_eq_true,Bool.or_eq_true]at h
 refine⟨by have:=hb.1;omega,?_⟩
 cases hc:z'.2.contains b with
 |false=>rfl
 |true=>
  rcases h.2 b (by simpa using hc)with h1|h1
  ·have:=hb.2;rw[h1]at this;cases this
  ·have:=hb.1;omega
def Fx.spans (z:Fx) (base n:Nat):Bool:=decide (base+n≤z.1)&&z.2.all fun x=>decide (x<base)||decide (base+n≤x)
theorem Fx.spans_has {z:Fx} {base n:Nat} (h:z.spans base n=true) {j:Nat} (hj:j<n):z.has (base+j):=by
 simp only[Fx.spans,Bool.and_eq_true,decide_eq_true_eq,List.all_eq_true,Bool.or_eq_true]at h
 refine⟨by show base+j<z.1;omega,?_⟩
 cases hc:z.2.contains (base+j)with
 |false=>rfl
 |true=>have:=h.2 (base+j) (by simpa using hc);omega
def Up (n:Fx) (s t:St):Prop:=∃f,(∀b,n.has b→f b=b)∧∃E,SR E f s t
theorem Up.trans {n:Fx} {a b c:St} (h:Up n a b) (k:Up n b c):Up n a c:=by
 obtain⟨f,h1,_,h2⟩:=h
 obtain⟨g,k1,_,k2⟩:=k
 exact⟨g∘f,fun b hb=>by show g (f b)=b;rw[h1 b hb,k1 b hb],_,h2.trans k2⟩
def Clo (n:Fx) (Q:Ex→St→Prop):Prop:=∀e s t,Up n s t→Q e s→Q e t
theorem Clo.ret {n:Fx} {rs:List RV} {x:D}:Clo n (zcJ rs (Reads x)):=fun e s t ⟨f,_,_,S⟩ h=>by
 have key:∀{e:Ex},(∃vs,zaY s rs=some vs∧Reads x (oneOr vs) s.h)→∃vs,zaY t rs=some vs∧Reads x (oneOr vs) t.h:=by
  rintro e ⟨vs,h1,h2⟩
  obtain⟨vs',h3,h4⟩:=zco S h1
  refine⟨vs',h3,?_⟩
  unfold Reads at h2⊢
  obtain⟨⟨y,k⟩,h5,rfl⟩:=Option.map_eq_some_iff.1 h2
  obtain⟨k',h6,_⟩:=zqT 8 h5 h4.oneOr S.h
  rw[h6];rfl
 cases e with
 |normal=>exact key (e:= .normal) h
 |ret=>exact key (e:= .ret) h
 |exit id=>exact h
theorem Clo.seq {A:AProg} (hA:A.Loc) {n:Fx} {b:C} (hb:b.loc=true) {Q:Ex→St→Prop} (h:Clo n Q):Clo n (Ex.seq A b Q):=fun e s t hs hq=>by
 cases e with
 |normal=>
  have h1:Wp A b s Q:=hq
  obtain⟨f,hf,_,S⟩:=hs
  exact(zyl hA hb S h1).mono fun e t' ⟨t0,h2,h3⟩=>h e t0 t' ⟨f,hf,_,h3⟩ h2
 |exit id=>exact h _ s t hs hq
 |ret=>exact h _ s t hs hq
theorem Clo.block {n:Fx} {id:Nat} {Q:Ex→St→Prop} (h:Clo n Q):Clo n (Ex.block id Q):=fun e s t hs hq=>by
 cases e with
 |normal=>exact h _ s t hs hq
 |ret=>exact h _ s t hs hq
 |exit id'=>
  simp only[Ex.block]at hq⊢
  split
  ·rename_i he;rw[if_pos he]at hq;exact h _ s t hs hq
  ·rename_i he;rw[if_neg he]at hq;exact h _ s t hs hq
def zgW {σ ρ:Type} (step:σ→Option (σ⊕ρ)):Nat→σ→Option ρ
 |0,_=>none
 |n+1,x=>match step x with
  |none=>none
  |some (.inl y)=>zgW step n y
  |some (.inr r)=>some r
open Classical in
noncomputable def zaL {σ ρ:Type} (step:σ→Option (σ⊕ρ)) (x:σ):Option ρ:=if h:∃r n,zgW step n x=some r then some (Classical.choose h)else none
section
variable {σ ρ:Type} {step:σ→Option (σ⊕ρ)}
theorem zsl {n m:Nat} (hm:n≤m):∀{x:σ} {r:ρ},zgW step n x=some r→zgW step m x=some r:=by
 induction n generalizing m with
 |zero=>intro x r h;simp[zgW]at h
 |succ n ih=>
  intro x r h
  obtain⟨k,rfl⟩:∃k,m=k+1:=⟨m-1,by omega⟩
  simp only[zgW]at h⊢
  split at h
  ·cases h
  ·exact ih (by omega) h
  ·exact h
theorem zhx {x:σ} {r:ρ}:zaL step x=some r↔∃n,zgW step n x=some r:=by
 unfold zaL
 constructor
 ·intro e
  split at e
  ·rename_i h;cases e;exact Classical.choose_spec h
  ·cases e
 ·rintro⟨n,hn⟩
  have hx:∃r n,zgW step n x=some r:=⟨r,n,hn⟩
  rw[dif_pos hx]
  obtain⟨m,hm⟩:=Classical.choose_spec hx
  have h1:=zsl (Nat.le_max_left n m) hn
  have h2:=zsl (Nat.le_max_right n m) hm
  rw[h1]at h2
  exact h2.symm
theorem zaC {x y:σ} (h:step x=some (.inl y)):zaL step x=zaL step y:=by
 have:∀r,zaL step x=some r↔zaL step y=some r:=fun r=>by
  rw[zhx,zhx]
  constructor
  ·rintro⟨n,hn⟩
   cases n with
   |zero=>simp[zgW]at hn
   |succ n=>simp only[zgW,h]at hn;exact⟨n,hn⟩
  ·rintro⟨n,hn⟩;exact⟨n+1,by simp only[zgW,h];exact hn⟩
 cases h1:zaL step x with
 |some r=>exact((this r).1 h1).symm
 |none=>
  cases h2:zaL step y with
  |none=>rfl
  |some r=>rw[(this r).2 h2]at h1;cases h1
theorem zau {x:σ} {r:ρ} (h:step x=some (.inr r)):zaL step x=some r:=zhx.2 ⟨1,by simp only[zgW,h]⟩
theorem zuP (n:Nat) (I:Nat→σ→Prop) (P:ρ→Prop) (h:∀k x,k≤n→I k x→(k<n∧∃y,step x=some (.inl y)∧I (k+1) y)∨∃r,step x=some (.inr r)∧P r):∀(k:Nat) (x:σ),k≤n→I k x→∃r,zaL step x=some r∧P r:=by
 intro k x hk hx
 generalize hm:n-k=m
 induction m generalizing k x with
 |zero=>
  rcases h k x hk hx with⟨h0,_⟩|⟨r,h1,h2⟩
  ·omega
  ·exact⟨r,zau h1,h2⟩
 |succ m ih=>
  rcases h k x hk hx with⟨h0,y,h1,h2⟩|⟨r,h1,h2⟩
  ·rw[zaC h1];exact ih (k+1) y (by omega) h2 (by omega)
  ·exact⟨r,zau h1,h2⟩
def zbq (n:Fx) (S:σ→St) (F:ρ→Ex×St):σ⊕ρ→Ex→St→Prop
 | .inl y=>fun e t=>e= .normal∧Up n (S y) t
 | .inr r=>fun e t=>e=(F r).1∧e≠.normal∧Up n (F r).2 t
theorem Up.sub {n n':Fx} (hn:Fx.le n' n=true) {s t:St} (h:Up n s t):Up n' s t:=by
 obtain⟨f,h1,h2⟩:=h
 exact⟨f,fun b hb=>h1 b (Fx.le_has hn hb),h2⟩
theorem Clo.lpost {n n':Fx} {S:σ→St} {F:ρ→Ex×St} {o:σ⊕ρ} (hn:Fx.le n' n=true):Clo n (zbq n' S F o):=fun e s t hs hq=>by
 replace hs:=hs.sub hn
 cases o with
 |inl y=>exact⟨hq.1,hq.2.trans hs⟩
 |inr r=>exact⟨hq.1,hq.2.1,hq.2.2.trans hs⟩
theorem Wp.loopR {A:AProg} (hA:A.Loc) {n:Fx} {a:C} (ha:a.loc=true) (S:σ→St) (F:ρ→Ex×St) (hstep:∀x o,step x=some o→Wp A a (S x) (zbq n S F o)) {x:σ} {r:ρ} (hr:zaL step x=some r) {s:St} (hs:Up n (S x) s) {Q:Ex→St→Prop} (hQ:Clo n Q) (hq:Q (F r).1 (F r).2):Wp A (.loop a) s Q:=by
 have main:∀(m:Nat) (x:σ),zgW step m x=some r→Wp A (.loop a) (S x) fun e t=>e=(F r).1∧Up n (F r).2 t:=by
  intro m
  induction m with
  |zero=>intro x h;simp[zgW]at h
  |succ m ih=>
   intro x h
   refine Wp.loop_step ?_
   simp only[zgW]at h
   split at h
   ·cases h
   ·rename_i y hy
    refine(hstep x _ hy).mono ?_
    rintro e t ⟨rfl,f,hf,_,hS⟩
    dsimp only
    exact(zyl hA (c:= .loop a) (by simpa[C.loc]using ha) hS (ih y h)).mono fun e t' ⟨t0,⟨h1,h2⟩,h3⟩=>⟨h1,h2.trans ⟨f,hf,_,h3⟩⟩
   ·rename_i r' hy
    cases h
    refine(hstep x _ hy).mono ?_
    rintro e t ⟨h1,h2,h3⟩
    cases e with
    |normal=>exact absurd rfl h2
    |exit id=>exact⟨h1,h3⟩
    |ret=>exact⟨h1,h3⟩
 obtain⟨m,hm⟩:=zhx.1 hr
 obtain⟨f,hf,_,hS⟩:=hs
 refine(zyl hA (c:= .loop a) (by simpa[C.loc]using ha) hS (main m x hm)).mono fun e t ⟨t0,⟨h1,h2⟩,h3⟩=> ?_
 subst h1
 exact hQ _ _ _ (h2.trans ⟨f,hf,_,h3⟩) hq
end
def zqX (n:Fx) (e0:Ex) (s0:St) (e:Ex) (t:St):Prop:=e=e0∧Up n s0 t
theorem Clo.cpost {n n':Fx} {e0:Ex} {s0:St} (hn:Fx.le n' n=true):Clo n (zqX n' e0 s0):=fun _ _ _ hs hq=>⟨hq.1,hq.2.trans (hs.sub hn)⟩
theorem WBr.cut {A:AProg} {n:Fx} {a b:C} {s:St} {x:V} {Q:Ex→St→Prop} (e0:Ex) (s0:St) (h:WBr A (zqX n e0 s0) a b s x) (hQ:Clo n Q) (hq:Q e0 s0):WBr A Q a b s x:=by
 unfold WBr at h⊢
 split at h
 ·exact h.mono fun e t ⟨h1,h2⟩=>by subst h1;exact hQ _ _ _ h2 hq
 ·exact h.mono fun e t ⟨h1,h2⟩=>by subst h1;exact hQ _ _ _ h2 hq
 ·exact h.elim
theorem zfm.cut {A:AProg} {n:Fx} {Q:Ex→St→Prop} {ops rest:List (SOp×Option (Nat×Bool))} {outs pairs:List (Nat×Nat)} {base i:Nat} {r env:Regs} {H:Heap} {e0:Ex} {s0:St} (hQ:Clo n Q) (hq:Q e0 s0) (h:zfm ⟨A,zqX n e0 s0,ops,outs,pairs,base,r⟩ rest i env H):zfm ⟨A,Q,ops,outs,pairs,base,r⟩ rest i env H:=by
 obtain⟨k,env',h',e,hp,h1,h2⟩:=h
 refine⟨k,env',h',e,hp,?_⟩
 dsimp only at h1 h2⊢
 rw[h1]
 exact hQ _ _ _ h2 hq
theorem zbD.cut {A:AProg} {n:Fx} {Q:Ex→St→Prop} {ops rest:List (SOp×Option (Nat×Bool))} {outs pairs:List (Nat×Nat)} {base i:Nat} {r env:Regs} {H:Heap} {o:SOp} {b:Bool} (e0:Ex) (s0:St) (h:zbD ⟨A,zqX n e0 s0,ops,outs,pairs,base,r⟩ o rest i env H b) (hQ:Clo n Q) (hq:Q e0 s0):zbD ⟨A,Q,ops,outs,pairs,base,r⟩ o rest i env H b:=by
 cases b with
 |false=>exact zfm.cut hQ hq h
 |true=>
  unfold zbD zmq at h⊢
  dsimp only at h⊢
  split at h
  ·exact zfm.cut hQ hq h
  ·exact h.elim
def Heap.at (n:Nat):Heap:={get:=fun _=>none,next:=n}
theorem Heap.at_get {n b:Nat}:(Heap.at n).get b=none:=rfl
theorem Heap.at_next {n:Nat}:(Heap.at n).next=n:=rfl
def Regs.none:Regs:=fun _=> .undef
theorem Regs.none_at {i:Nat}:Regs.none i= .undef:=rfl
theorem Heap.set_at (h:Heap) (b:Nat) (x:Option Blk) (c:Nat):(h.set b x).get c=if c=b then x else h.get c:=by
 by_cases hn:c=b
 ·simp[Heap.set,hn]
 ·simp[Heap.set,hn,beq_false_of_ne hn]
theorem Heap.set_next (h:Heap) (b:Nat) (x:Option Blk):(h.set b x).next=h.next:=rfl
def ren (l:List (Nat×Nat)) (N N' b:Nat):Nat:=if N≤b then b-N+N' else(l.lookup b).getD b
def zGv (n:Fx) (l:List (Nat×Nat)) (N N':Nat):Bool:=
 decide (n.1≤N∧N≤N')&&l.all (fun x=>decide (¬n.has x.1∧x.1<N∧x.2<N')&&(decide (N≤x.2)||(l.map Prod.fst).contains x.2)&&l.all fun y=>x.1==y.1||x.2 !=y.2)&&decide (l.map Prod.fst).Nodup
theorem zgX {l:List (Nat×Nat)} {b c:Nat} (h:l.lookup b=some c):(b,c)∈l:=by
 induction l with
 |nil=>simp at h
 |cons x l ih=>
  simp only[List.lookup]at h
  split at h
  ·rename_i hb
   simp only[beq_iff_eq]at hb
   cases h;subst hb;simp
  ·exact List.mem_cons_of_mem _ (ih h)
theorem zkI {l:List (Nat×Nat)} {b:Nat} (h:l.lookup b=none):(l.map Prod.fst).contains b=false:=by
 induction l with
 |nil=>rfl
 |cons x l ih=>
  simp only[List.lookup]at h
  split at h
  ·cases h
  ·rename_i hb
   simp only[List.map_cons,List.contains_cons,hb,ih h,Bool.or_self]
theorem zJV {n:Fx} {l:List (Nat×Nat)} {N N':Nat} (h:zGv n l N N'=true):(∀b,n.has b→ren l N N' b=b)∧(∀i,ren l N N' (N+i)=N'+i)∧∀a b,ren l N N' a=ren l N N' b→a=b:=by
 simp only[zGv,Bool.and_eq_true,decide_eq_true_eq,List.all_eq_true,Bool.or_eq_true,beq_iff_eq,bne_iff_ne]at h
 obtain⟨⟨⟨h1,h2⟩,h3⟩,h4⟩:=h
 have low:∀{b c},l.lookup b=some c→¬n.has b∧b<N∧c<N'∧(N≤c∨(l.map Prod.fst).contains c=true):=fun{b c} hb=>by
  obtain⟨⟨⟨a1,a2,a3⟩,a4⟩,_⟩:=h3 _ (zgX hb)
  exact⟨a1,a2,a3,a4⟩
 refine⟨fun b hb=> ?_,fun i=> ?_,fun a b e=> ?_⟩
 ·unfold ren
  rw[if_neg (by have:=hb.1;omega)]
  cases hl:l.lookup b with
  |none=>rfl
  |some c=>exact absurd hb (low hl).1
 ·unfold ren;rw[if_pos (by omega)];omega
 ·unfold ren at e
  split at e
  ·rename_i ha
   split at e
   ·omega
   ·rename_i hb
    exfalso
    cases hl:l.lookup b with
    |none=>rw[hl]at e;simp only[Option.getD_none]at e;omega
    |some c=>rw[hl]at e;simp only[Option.getD_some]at e;have:=low hl;omega
  ·rename_i ha
   split at e
   ·rename_i hb
    exfalso
    cases hl:l.lookup a with
    |none=>rw[hl]at e;simp only[Option.getD_none]at e;omega
    |some c=>rw[hl]at e;simp only[Option.getD_some]at e;have:=low hl;omega
   ·rename_i hb
    cases hl:l.lookup a with
    |none=>
     rw[hl]at e
     cases hm:l.lookup b with
     |none=>rw[hm]at e;exact e
     |some c=>
      rw[hm]at e
      simp only[Option.getD_none,Option.getD_some]at e
      subst e
      have h5:=low hm
      have h6:=zkI hl
      rcases h5.2.2.2 with h7|h7
      ·omega
      ·rw[h6]at h7;cases h7
    |some c=>
     rw[hl]at e
     cases hm:l.lookup b with
     |none=>
      rw[hm]at e
      simp only[Option.getD_none,Option.getD_some]at e
      subst e
      have h5:=low hl
      have h6:=zkI hm
      rcases h5.2.2.2 with h7|h7
      ·omega
      ·rw[h6]at h7;cases h7
     |some d=>
      rw[hm]at e
      simp only[Option.getD_some]at e
      subst e
      have m1:=zgX hl
      have m2:=zgX hm
      rcases(h3 _ m1).2 _ m2 with h7|h7
      ·exact h7
      ·exact absurd rfl h7
def zae (f:Nat→Nat) (r r':Regs):Prop:=∀i,VR f (r i) (r' i)
theorem zae.none {f:Nat→Nat} {r':Regs}:zae f Regs.none r':=fun _=> .undef _
theorem zae.set {f:Nat→Nat} {r r':Regs} {t:Nat} {v:V} (hv:VR f v (r' t)) (h:zae f r r'):zae f (r.set t v) r':=fun i=>by
 rw[Regs.set_at]
 split
 ·rename_i hi;subst hi;exact hv
 ·exact h i
def zar (f:Nat→Nat):Option Blk→Option Blk→Prop
 | .none,_=>True
 |some x,some y=>BR f x y
 |some _,.none=>False
def zah (f:Nat→Nat) (h h':Heap):Prop:=∀b,zar f (h.get b) (h'.get (f b))
theorem zah.at {f:Nat→Nat} {n:Nat} {h':Heap}:zah f (Heap.at n) h':=fun _=>trivial
theorem zah.put {f:Nat→Nat} {h h':Heap} {b:Nat} {x:Blk} (hx:zar f (some x) (h'.get (f b))) (k:zah f h h'):zah f (h.put b x) h':=fun c=>by
 rw[Heap.put_at]
 split
 ·rename_i hc;subst hc;exact hx
 ·exact k c
theorem zah.set {f:Nat→Nat} {h h':Heap} {b:Nat} {x:Option Blk} (hx:zar f x (h'.get (f b))) (k:zah f h h'):zah f (h.set b x) h':=fun c=>by
 rw[Heap.set_at]
 split
 ·rename_i hc;subst hc;exact hx
 ·exact k c
theorem Up.of {n:Fx} {N N':Nat} (l:List (Nat×Nat)) {r r':Regs} {h h':Heap} (h1:h.next=N) (h2:h'.next=N') (hl:zGv n l N N'=true) (hr:zae (ren l N N') r r') (hh:zah (ren l N N') h h'):Up n ⟨r,h⟩ ⟨r',h'⟩:=by
 obtain⟨a,b,c⟩:=zJV hl
 refine⟨ren l N N',a,h'.get,hr,?_,?_,c,fun _ _=>rfl⟩
 ·intro k x hx
  have h3:=hh k
  have hx':h.get k=some x:=hx
  rw[hx']at h3
  cases h4:h'.get (ren l N N' k)with
  |none=>rw[h4]at h3;exact h3.elim
  |some y=>rw[h4]at h3;exact⟨y,rfl,h3⟩
 ·intro i
  show ren l N N' (h.next+i)=h'.next+i
  rw[h1,h2];exact b i
theorem zar.els {f:Nat→Nat} {z fz fz':Nat} {l l':List V} (hz:fz'≤fz) (h:VRL f l l'):zar f (some (.els z l fz)) (some (.els z l' fz')):=BR.els hz h
theorem VR.ptr' {f:Nat→Nat} {b c i o:Nat} (h:f b=c):VR f (.ptr b i o) (.ptr c i o):=by subst h;exact .ptr ..
theorem VR.sl' {f:Nat→Nat} {b c i o:Nat} (h:f b=c):VR f (.sl b i o) (.sl c i o):=by subst h;exact .sl ..
theorem VR.sl'' {f:Nat→Nat} {b c i o o':Nat} (h:f b=c) (ho:o=o'):VR f (.sl b i o) (.sl c i o'):=by subst h;subst ho;exact .sl ..
theorem VR.map' {f:Nat→Nat} {b c:Nat} (h:f b=c):VR f (.map b) (.map c):=by subst h;exact .map ..
theorem VR.yld' {f:Nat→Nat} {b c:Nat} (h:f b=c):VR f (.yld b) (.yld c):=by subst h;exact .yld ..
theorem VR.clo' {f:Nat→Nat} {g:FuncId} {a a' b b':List V} (h:VRL f a a') (k:VRL f b b'):VR f (.clo g a b) (.clo g a' b'):= .clo h.len h.get k.len k.get
theorem VRL.refl_d {f:Nat→Nat} {α:Type} (e:α→D) (l:List α):VRL f (l.map fun x=>V.d (e x)) (l.map fun x=>V.d (e x)):=by
 have:=VRL.dd (f:=f) (l.map e)
 rwa [List.map_map]at this
def mb (b:Nat) (l:List V):V:=match l with|[]=> .d (.list true [])|_::_=> .sl b 0 l.length
def mbB (sz fz:Nat) (l:List V):Option Blk:=match l with|[]=> .none|_::_=>some (.els sz l fz)
theorem zJW {b:Nat}:mb b []= .d (.list true []):=rfl
theorem zGw {sz fz:Nat}:mbB sz fz []= .none:=rfl
def zGx (h:Heap) (b n:Nat):Heap:={h with get:=fun c=>bif c==b then(h.get b).map (zGp n)else h.get c}
theorem zsm {h:Heap} {b n c:Nat}:(zGx h b n).get c=if c=b then(h.get b).map (zGp n)else h.get c:=by
 show(bif c==b then _ else _)=_
 by_cases e:c=b
 ·rw[if_pos e,e,beq_self_eq_true];rfl
 ·rw[if_neg e,beq_false_of_ne e];rfl
theorem zoP {h:Heap} {b n:Nat}:(zGx h b n).next=h.next:=rfl
theorem zqY {h:Heap} {b n:Nat}:AI.freeze h b n=zGx h b n:=by
 have h1:(AI.freeze h b n).get=(zGx h b n).get:=funext fun c=>by rw[zfT,zsm]
 have h2:(AI.freeze h b n).next=(zGx h b n).next:=by rw[zgO,zoP]
 cases hf:AI.freeze h b n with
 |mk g nx=>
  cases hg:zGx h b n with
  |mk g' nx'=>rw[hf,hg]at h1 h2;simp only at h1 h2;rw[h1,h2]
theorem zCI {n b len z fz:Nat} {h:Heap} {α:Type} {e:α→D} {l:List α} {x:D} (hl:len=1+l.length):zCz n b len h (some (.els z (V.d x::l.map fun t=>V.d (e t)) fz))=some (.list false (x::l.map e),zGx h b len):=by
 have:=zsi (h:=h) (n:=n) (b:=b) (len:=len) (z:=z) (fz:=fz) (xs:=x::l.map e) (by simp[hl];omega)
 rw[zqY]at this
 rwa [List.map_cons,List.map_map]at this
theorem zqZ {fr c k o n:Nat} {l:List V}:zgN (zmt fr (mb c l) (.sl k o n)) (some (.blocks []))=true:=by cases l<;>rfl
theorem zra {fr c:Nat} {l:List V} {x:D}:zgN (zmt fr (mb c l) (.d x)) (some (.blocks []))=true:=by cases l<;>rfl
theorem zrb {fr c k o n:Nat} {l:List V}:zgN (some (.blocks [])) (zmt fr (mb c l) (.sl k o n))=true:=by cases l<;>rfl
theorem zrc {fr c:Nat} {l:List V} {x:D}:zgN (some (.blocks [])) (zmt fr (mb c l) (.d x))=true:=by cases l<;>rfl
theorem VR.mb {f:Nat→Nat} {b c:Nat} {l:List V} (h:f b=c):VR f (mb b l) (mb c l):=by
 cases l with
 |nil=>exact .d _
 |cons x l=>exact .sl' h
theorem VR.mb_sl {f:Nat→Nat} {b c n:Nat} {l:List V} (hl:l≠[]) (h:f b=c) (hn:l.length=n):VR f (AI.mb b l) (.sl c 0 n):=by
 subst hn
 cases l with
 |nil=>exact absurd rfl hl
 |cons x l=>exact .sl' h
theorem zar.mb {f:Nat→Nat} {sz fz fz':Nat} {l:List V} (hz:fz'≤fz) (h:VRL f l l):zar f (mbB sz fz l) (mbB sz fz' l):=by
 cases l with
 |nil=>trivial
 |cons x l=>exact BR.els hz h
theorem zar.mb_els {f:Nat→Nat} {sz fz fz':Nat} {l l':List V} (hz:fz'≤fz) (h:VRL f l l'):zar f (mbB sz fz l) (some (.els sz l' fz')):=by
 cases l with
 |nil=>trivial
 |cons x l=>exact BR.els hz h
theorem zGy {h:Heap} {fr sz bytes b fz:Nat} {l new:List V} {src:V} (hb:h.get b=mbB sz fz l) (hfz:l=[]→fz=0) (hs:zbC h src=some new) (hne:new≠[]) (hz:sized sz new=true) (hr:(l.length+new.length)*bytes≤roomBytes):
 zlw h fr sz bytes (mb b l) src=some (.sl fr 0 (l.length+new.length),(h.set b .none).put fr (.els sz (l++new) fz)):=by
 rw[zfz,hs,zih hne hz]
 cases l with
 |nil=>
  have:h.set b .none=h:=by
   have:(h.set b Option.none).get=h.get:=by
    funext c
    rw[Heap.set_at]
    split
    ·rename_i hc;subst hc;exact hb.symm
    ·rfl
   cases h;simp only[Heap.set]at this⊢;rw[this]
  simp only[mb,zCu,List.length_nil,Nat.zero_add,List.nil_append]at hr⊢
  rw[if_pos hr,this,hfz rfl]
 |cons x l=>
  simp only[mb,zkD,hb,mbB]
  rw[zht rfl hr]
  rfl
theorem zGz {h:Heap} {b:Nat} {l:List V}:zlv h .sl (mb b l)=some l.length:=by cases l<;>rfl
theorem zGA {b:Nat} {l:List V}:(mb b l).isSl=true:=by cases l<;>rfl
def rd {α:Type} (l:List α) (i:Int):Option α:=if 0≤i then l[i.toNat]? else .none
theorem zab {α:Type} {l:List α} {i:Int} {x:α} (h:rd l i=some x):decide (0≤i)=true:=by
 unfold rd at h;split at h
 ·rename_i hi;simpa using hi
 ·cases h
theorem zaj {α:Type} {l:List α} {i:Int} {x:α} (h:rd l i=some x):0≤i:=by simpa using zab h
theorem zJX {α:Type} {l:List α} {i:Int} {x:α} (h:rd l i=some x):l[i.toNat]? =some x:=by
 unfold rd at h;split at h
 ·exact h
 ·cases h
theorem zac {α β:Type} {l:List α} {i:Int} {x:α} (e:α→β) (h:rd l i=some x):(l.map e)[i.toNat]? =some (e x):=by
 rw[List.getElem?_map,zJX h];rfl
theorem zbd {α:Type} {l:List α} {k:Nat} (h:k<l.length):rd l (k:Int)=some l[k]:=by
 unfold rd;rw[if_pos (by omega)];simp[h]
open Classical in
noncomputable def dec {α:Type} (e:α→D) (x:Option D):Option α:=if h:∃y,x=some (e y)then some (Classical.choose h)else .none
theorem zag {α:Type} {e:α→D} {x:Option D} {y:α} (h:dec e x=some y):x=some (e y):=by
 unfold dec at h
 split at h
 ·rename_i hx;cases h;exact Classical.choose_spec hx
 ·cases h
theorem zJY {α:Type} {e:α→D} (he:∀a b,e a=e b→a=b) (y:α):dec e (some (e y))=some y:=by
 unfold dec
 have hx:∃z,some (e y)=some (e z):=⟨y,rfl⟩
 rw[dif_pos hx]
 have:=Classical.choose_spec hx
 rw[Option.some.injEq]at this
 rw[←he _ _ this]
def eT2 {α β:Type} (e:α→D) (f:β→D) (x:α×β):D:= .tuple [e x.1,f x.2]
def eT3 {α β γ:Type} (e:α→D) (f:β→D) (g:γ→D) (x:α×β×γ):D:= .tuple [e x.1,f x.2.1,g x.2.2]
def eT4 {α β γ δ:Type} (e:α→D) (f:β→D) (g:γ→D) (k:δ→D) (x:α×β×γ×δ):D:= .tuple [e x.1,f x.2.1,g x.2.2.1,k x.2.2.2]
def eT5 {α β γ δ ε:Type} (e:α→D) (f:β→D) (g:γ→D) (k:δ→D) (m:ε→D) (x:α×β×γ×δ×ε):D:= .tuple [e x.1,f x.2.1,g x.2.2.1,k x.2.2.2.1,m x.2.2.2.2]
theorem zJZ {α β:Type} {e:α→D} {f:β→D} {x:α×β}:eT2 e f x= .tuple [e x.1,f x.2]:=rfl
theorem zKa {α β γ:Type} {e:α→D} {f:β→D} {g:γ→D} {x:α×β×γ}:eT3 e f g x= .tuple [e x.1,f x.2.1,g x.2.2]:=rfl
theorem zKb {α β γ δ:Type} {e:α→D} {f:β→D} {g:γ→D} {k:δ→D} {x:α×β×γ×δ}:eT4 e f g k x= .tuple [e x.1,f x.2.1,g x.2.2.1,k x.2.2.2]:=rfl
theorem zKc {α β γ δ ε:Type} {e:α→D} {f:β→D} {g:γ→D} {k:δ→D} {m:ε→D} {x:α×β×γ×δ×ε}:eT5 e f g k m x= .tuple [e x.1,f x.2.1,g x.2.2.1,k x.2.2.2.1,m x.2.2.2.2]:=rfl
section
variable {A:AProg} {g:Rg} {rest:List (SOp×Option (Nat×Bool))} {i fr sz bytes:Nat} {env:Regs} {H:Heap}
theorem zgY {o:SOp} {b:Bool} {v:V} (he:b=true→zad (ans g.A) g.A.sh (g.base+i) env g.r H o=some (v,H)) (k:zfm g rest (i+1) (env.set i (bif b then v else .d (.tuple []))) H):zbD g o rest i env H b:=by
 cases b
 ·exact k
 ·show zmq g rest i env (zad (ans g.A) g.A.sh (g.base+i) env g.r H o)
  rw[he rfl];exact k
theorem zal {f:FuncId} {ds:List D} {y:D} (hr:pc A f ds=some y) (k:zfm g rest (i+1) (env.set i (.d y)) H):zmq g rest i env (zAQ H (pc A f ds)):=by rw[hr];exact k
theorem zym {src:V} {new:List V} (he:zbC H src=some new) (hne:new≠[]) (hs:sized sz new=true) (hr:new.length*bytes≤roomBytes) (k:zfm g rest (i+1) (env.set i (.sl fr 0 new.length)) (H.put fr (.els sz new 0))):zmq g rest i env (zlw H fr sz bytes (.d (.list true [])) src):=by
 rw[zfz,he,zih hne hs]
 simp only[zCu]
 rw[if_pos hr]
 exact k
theorem zfB {src:V} {b fz:Nat} {l new:List V} (hb:H.get b=mbB sz fz l) (hfz:l=[]→fz=0) (he:zbC H src=some new) (hne:new≠[]) (hs:sized sz new=true) (hr:(l.length+new.length)*bytes≤roomBytes) (k:zfm g rest (i+1) (env.set i (.sl fr 0 (l.length+new.length))) ((H.set b .none).put fr (.els sz (l++new) fz))):zmq g rest i env (zlw H fr sz bytes (mb b l) src):=by
 rw[zGy hb hfz he hne hs hr];exact k
theorem zdK {src:V} {b fz len:Nat} {l new:List V} (hb:H.get b=some (.els sz l fz)) (he:zbC H src=some new) (hne:new≠[]) (hs:sized sz new=true) (hl:l.length=len) (hr:(len+new.length)*bytes≤roomBytes) (k:zfm g rest (i+1) (env.set i (.sl fr 0 (len+new.length))) ((H.del b).put fr (.els sz (l++new) fz))):zmq g rest i env (zlw H fr sz bytes (.sl b 0 len) src):=by
 rw[zfz,he,zih hne hs,zkD,hb,zht hl hr];exact k
end
theorem zyn {α:Type} {c:Bool} {x y z:α}:(bif c then(bif c then x else y)else z)=bif c then x else z:=by cases c<;>rfl
theorem zuQ {α:Type} {c:Bool} {x y z:α}:(bif c then x else(bif c then y else z))=bif c then x else z:=by cases c<;>rfl
theorem zyo {α:Type} {c:Bool} {x y z:α}:(bif c then x else(bif !c then y else z))=bif c then x else y:=by cases c<;>rfl
theorem zyp {α:Type} {c:Bool} {x y z:α}:(bif !c then x else(bif c then y else z))=bif !c then x else y:=by cases c<;>rfl
theorem zyq {c:Bool} {k:IntKind} {x y:Int}:(bif c then V.d (.int k x)else V.d (.int k y))=V.d (.int k (bif c then x else y)):=by cases c<;>rfl
theorem zyr {c:Bool} {x y:List UInt8}:(bif c then V.d (.str x)else V.d (.str y))=V.d (.str (bif c then x else y)):=by cases c<;>rfl
theorem VRL.eq_d {f:Nat→Nat} {α:Type} {e:α→D} {l:List α} {m:List V} (h:m=l.map fun z=>V.d (e z)):VRL f (l.map fun z=>V.d (e z)) m:=by subst h;exact .refl_d e l
theorem zar.refl_d {f:Nat→Nat} {z fz:Nat} {x:D}:zar f (some (.els z [.d x] fz)) (some (.els z [.d x] fz)):=zar.els (Nat.le_refl _) (VRL.dd [x])
theorem zar.arr {f:Nat→Nat} {sz fz fz':Nat} {α:Type} {e:α→D} {l:List α} {m:List V} (h:m=l.map fun z=>V.d (e z)) (hz:fz'≤fz):zar f (some (.els sz (l.map fun z=>V.d (e z)) fz)) (some (.els sz m fz')):=zar.els hz (.eq_d h)
theorem zdp {a b:Bool} (h:(bif a then b else false)=true):a=true∧b=true:=by cases a<;>simp_all
theorem zCJ {b:Nat} {l:List V}:isNil (mb b l)=some l.isEmpty:=by cases l<;>rfl
def Frz (h h':Heap):Prop:=∀b z l fz,h.get b=some (.els z l fz)→∃fz',h'.get b=some (.els z l fz')
theorem Frz.refl {h:Heap}:Frz h h:=fun _ _ _ fz e=>⟨fz,e⟩
theorem Frz.trans {a b c:Heap} (x:Frz a b) (y:Frz b c):Frz a c:=fun k z l fz e=>by
 obtain⟨fz',e'⟩:=x k z l fz e
 exact y k z l fz' e'
theorem Frz.freeze {h:Heap} {b n:Nat}:Frz h (freeze h b n):=fun k z l fz e=>by
 rw[zfT]
 split
 ·rename_i hk;subst hk;rw[e];exact⟨_,rfl⟩
 ·exact⟨fz,e⟩
theorem Frz.mono {h h':Heap} (x:Frz h h') (b n:Nat) {z fz:Nat} {l:List V} (e:h.get b=some (.els z l fz)):Frz (AI.freeze h b n) (AI.freeze h' b n):=fun k z' l' fz' e'=>by
 rw[zfT]at e'⊢
 split at e'
 ·rename_i hk;subst hk
  rw[e]at e'
  cases e'
  obtain⟨f2,e2⟩:=x k z l fz e
  rw[if_pos rfl,e2];exact⟨_,rfl⟩
 ·rename_i hk;rw[if_neg hk];exact x k z' l' fz' e'
theorem zys:∀(n:Nat) {h h' h1:Heap} {v:V} {x:D},res n h v=some (x,h1)→Frz h h'→∃h1',res n h' v=some (x,h1')∧Frz h' h1'∧Frz h1 h1'
 |0,h,h',h1,v,x,e,F=>by
  cases v with
  |d y=>simp only[zhZ,Option.some.injEq,Prod.mk.injEq]at e⊢;obtain⟨rfl,rfl⟩:=e;exact⟨h',⟨rfl,rfl⟩,.refl,F⟩
  |_=>simp[res]at e
 |n+1,h,h',h1,v,x,e,F=>by
  have go:∀(cs:List V) (h h' h1:Heap) (xs:List D),Frz h h'→zbI (res n) h cs=some (xs,h1)→∃h1',zbI (res n) h' cs=some (xs,h1')∧Frz h' h1'∧Frz h1 h1':=by
   intro cs
   induction cs with
   |nil=>intro h h' h1 xs F e;simp only[zbI,Option.some.injEq,Prod.mk.injEq]at e⊢;obtain⟨rfl,rfl⟩:=e;exact⟨h',⟨rfl,rfl⟩,.refl,F⟩
   |cons c cs ih=>
    intro h h' h1 xs F e
    simp only[zbI]at e
    obtain⟨⟨y1,g1⟩,e2,e⟩:=Option.bind_eq_some_iff.1 e
    obtain⟨⟨y2,g2⟩,e3,e⟩:=Option.map_eq_some_iff.1 e
    simp only[Prod.mk.injEq]at e
    obtain⟨rfl,rfl⟩:=e
    obtain⟨k1,a1,K1,L1⟩:=zys n e2 F
    obtain⟨k2,a2,K2,L2⟩:=ih _ _ _ _ L1 e3
    exact⟨k2,by simp only[zbI,a1,Option.bind_some,a2,Option.map_some],K1.trans K2,L2⟩
  have all:∀(cs:List V) (h h' h1:Heap) (xs:List D),Frz h h'→zba (res n) h cs=some (xs,h1)→∃h1',zba (res n) h' cs=some (xs,h1')∧Frz h' h1'∧Frz h1 h1':=by
   intro cs h h' h1 xs F e
   unfold zba at e⊢
   split at e
   ·simp only[Option.some.injEq,Prod.mk.injEq]at e;obtain⟨rfl,rfl⟩:=e;exact⟨h',rfl,.refl,F⟩
   ·exact go _ _ _ _ _ F e
  cases v with
  |d y=>simp only[zhZ,Option.some.injEq,Prod.mk.injEq]at e⊢;obtain⟨rfl,rfl⟩:=e;exact⟨h',⟨rfl,rfl⟩,.refl,F⟩
  |sl b off len=>
   simp only[res]at e⊢
   split at e
   ·rename_i z l fz hb
    obtain⟨fz',hb'⟩:=F b z l fz hb
    simp only[hb']
    split at e
    ·rename_i hle
     rw[if_pos hle]
     obtain⟨⟨xs,g⟩,e1,e⟩:=Option.map_eq_some_iff.1 e
     simp only[Prod.mk.injEq]at e
     obtain⟨rfl,rfl⟩:=e
     obtain⟨k,a,K,K2⟩:=all _ _ _ _ _ (F.mono b (off+len) hb) e1
     exact⟨k,by rw[a];rfl,Frz.freeze.trans K,K2⟩
    ·cases e
   ·cases e
  |agg cs=>
   simp only[res]at e⊢
   obtain⟨⟨xs,g⟩,e1,e⟩:=Option.map_eq_some_iff.1 e
   simp only[Prod.mk.injEq]at e
   obtain⟨rfl,rfl⟩:=e
   obtain⟨k,a,K⟩:=all _ _ _ _ _ F e1
   exact⟨k,by rw[a];rfl,K⟩
  |tuple cs=>
   simp only[res]at e⊢
   obtain⟨⟨xs,g⟩,e1,e⟩:=Option.map_eq_some_iff.1 e
   simp only[Prod.mk.injEq]at e
   obtain⟨rfl,rfl⟩:=e
   obtain⟨k,a,K⟩:=all _ _ _ _ _ F e1
   exact⟨k,by rw[a];rfl,K⟩
  |_=>simp[res]at e
def Rd (n:Nat) (h:Heap) (v:V) (x:D):Prop:=∃h1,res n h v=some (x,h1)∧Frz h h1
def RdL (n:Nat) (h:Heap):List V→List D→Prop
 |[],[]=>True
 |v::vs,x::xs=>Rd n h v x∧RdL n h vs xs
 |_,_=>False
theorem Rd.d {n:Nat} {h:Heap} {x:D}:Rd n h (.d x) x:=⟨h,zhZ,.refl⟩
theorem Rd.keep {n:Nat} {h h':Heap} {v:V} {x:D} (r:Rd n h v x) (F:Frz h h'):Rd n h' v x:=by
 obtain⟨h1,e,_⟩:=r
 obtain⟨h1',e',F',_⟩:=zys n e F
 exact⟨h1',e',F'⟩
theorem RdL.keep {n:Nat} {h h':Heap}:∀{vs:List V} {xs:List D},RdL n h vs xs→Frz h h'→RdL n h' vs xs
 |[],[],_,_=>trivial
 |_::_,_::_,r,F=>⟨r.1.keep F,RdL.keep r.2 F⟩
theorem RdL.go {n:Nat}:∀{vs:List V} {xs:List D} {h:Heap},RdL n h vs xs→∃h1,zbI (res n) h vs=some (xs,h1)∧Frz h h1
 |[],[],h,_=>⟨h,rfl,.refl⟩
 |v::vs,x::xs,h,r=>by
  obtain⟨⟨h1,e1,F1⟩,r2⟩:=r
  obtain⟨h2,e2,F2⟩:=RdL.go (r2.keep F1)
  exact⟨h2,by simp only[zbI,e1,Option.bind_some,e2,Option.map_some],F1.trans F2⟩
theorem RdL.all {n:Nat} {vs:List V} {xs:List D} {h:Heap} (r:RdL n h vs xs):∃h1,zba (res n) h vs=some (xs,h1)∧Frz h h1:=by
 unfold zba
 cases hd:allD vs with
 |none=>exact r.go
 |some ds=>
  have:=zdo hd
  subst this
  have key:∀(ds xs:List D),RdL n h (ds.map V.d) xs→xs=ds:=by
   intro ds
   induction ds with
   |nil=>intro xs r;cases xs with|nil=>rfl|cons x xs=>exact r.elim
   |cons d ds ih=>
    intro xs r
    cases xs with
    |nil=>exact r.elim
    |cons x xs=>
     obtain⟨⟨h1,e,_⟩,r2⟩:=r
     rw[zhZ]at e
     cases e
     rw[ih xs r2]
  rw[key ds xs r]
  exact⟨h,rfl,.refl⟩
theorem Rd.tuple {n:Nat} {vs:List V} {xs:List D} {h:Heap} (r:RdL n h vs xs):Rd (n+1) h (V.ofTuple vs) (.tuple xs):=by
 obtain⟨h1,e,F⟩:=r.all
 unfold V.ofTuple
 unfold zba at e
 cases hd:allD vs with
 |none=>
  rw[hd]at e
  have e:zbI (res n) h vs=some (xs,h1):=e
  exact⟨h1,by simp only[res,zba,hd];rw[e];rfl,F⟩
 |some ds=>rw[hd]at e;cases e;exact .d
theorem Rd.agg {n:Nat} {vs:List V} {xs:List D} {h:Heap} (r:RdL n h vs xs):Rd (n+1) h (V.ofCells vs) (.agg xs):=by
 obtain⟨h1,e,F⟩:=r.all
 unfold V.ofCells
 unfold zba at e
 cases hd:allD vs with
 |none=>
  rw[hd]at e
  have e:zbI (res n) h vs=some (xs,h1):=e
  exact⟨h1,by simp only[res,zba,hd];rw[e];rfl,F⟩
 |some ds=>rw[hd]at e;cases e;exact .d
theorem Rd.sl {n b len sz fz:Nat} {h:Heap} {α:Type} {e:α→D} {l:List α} {m:List V} (hb:h.get b=some (.els sz m fz)) (hm:m=l.map fun z=>V.d (e z)) (hl:l.length=len):Rd (n+1) h (.sl b 0 len) (.list false (l.map e)):=by
 subst hm
 refine⟨freeze h b len,?_,.freeze⟩
 rw[zyc,hb,zkE hl]
theorem Rd.mb {n b sz fz:Nat} {h:Heap} {α:Type} {e:α→D} {l:List α} (hb:h.get b=mbB sz fz (l.map fun z=>V.d (e z))):Rd (n+1) h (mb b (l.map fun z=>V.d (e z))) (.list l.isEmpty (l.map e)):=by
 cases l with
 |nil=>exact .d
 |cons x l=>exact Rd.sl hb rfl (by simp)
theorem Reads.of {h:Heap} {v:V} {x y:D} (r:Rd 8 h v x) (hy:y=x):Reads y v h:=by
 subst hy
 obtain⟨h1,e,_⟩:=r
 unfold Reads
 rw[e];rfl
theorem Rd.eq {n:Nat} {h:Heap} {v:V} {x y:D} (r:Rd n h v x) (hy:x=y):Rd n h v y:=by subst hy;exact r
theorem Rd.agg' {n:Nat} {vs:List V} {xs:List D} {h:Heap} (r:RdL n h vs xs):Rd (n+1) h (.agg vs) (.agg xs):=by
 obtain⟨h1,e,F⟩:=r.all
 exact⟨h1,by simp only[res];rw[e];rfl,F⟩
theorem RdL.nil {n:Nat} {h:Heap}:RdL n h [] []:=trivial
theorem RdL.cons {n:Nat} {h:Heap} {v:V} {x:D} {vs:List V} {xs:List D} (a:Rd n h v x) (b:RdL n h vs xs):RdL n h (v::vs) (x::xs):=⟨a,b⟩
theorem Reads.ofv {h:Heap} {v v':V} {x y:D} (hv:v=v') (r:Rd 8 h v' x) (hy:y=x):Reads y v h:=by subst hv;exact .of r hy
theorem zyt {n:Nat} {h:Heap}:∀l:List D,zbI (res n) h (l.map V.d)=some (l,h)
 |[]=>rfl
 |x::l=>by simp only[List.map_cons,zbI,zhZ,Option.bind_some,zyt l,Option.map_some]
theorem zCK {n:Nat} {h:Heap} {l:List V}:zCA (res n) h l (allD l)=zbI (res n) h l:=by
 cases hd:allD l with
 |none=>rfl
 |some ds=>rw[zdo hd,zyt];rfl
def zCL (n b:Nat) (l:List V) (h:Heap):Option Blk→Option (D×Heap)
 |x=>match l with
  |[]=>some (.list true [],h)
  |y::l=>zCz n b (l.length+1) h x
theorem zKd {n b:Nat} {l:List V} {h:Heap}:res (n+1) h (mb b l)=zCL n b l h (h.get b):=by
 cases l with
 |nil=>rfl
 |cons x l=>simp only[mb,zCL,List.length_cons];exact zyc
theorem zrd {h:Heap} {b n:Nat} (hb:h.get b=none):freeze h b n=h:=by unfold freeze;rw[hb]
theorem zyu {n b sz fz:Nat} {h:Heap} {α:Type} {e:α→D} {l:List α} (hb:h.get b=mbB sz fz (l.map fun z=>V.d (e z))):zCL n b (l.map fun z=>V.d (e z)) h (mbB sz fz (l.map fun z=>V.d (e z)))=some (.list l.isEmpty (l.map e),freeze h b l.length):=by
 cases l with
 |nil=>rw[zrd hb];rfl
 |cons x l=>
  simp only[List.map_cons,zCL,mbB]
  have:=zkE (h:=h) (f:=e) (n:=n) (b:=b) (z:=sz) (fz:=fz) (xs:=x::l) (len:=(x::l).length) rfl
  simp only[List.map_cons,List.length_cons,List.length_map]at this⊢
  rw[this];rfl
theorem zGB {sz fz n:Nat} {l:List V}:(mbB sz fz l).map (zGp n)=mbB sz (if n≤fz then fz else n) l:=by cases l<;>rfl
theorem zoQ {α:Type} {e:α→V} {l:List α}:(l.map e).isEmpty=l.isEmpty:=by cases l<;>rfl
def cut {α:Type} (l:List α) (lo hi:Int):Option (List α):=if 0≤lo∧lo≤hi∧hi≤l.length then some ((l.drop lo.toNat).take (hi.toNat-lo.toNat))else none
theorem zlk {α:Type} {sz:Nat} {e:α→D} (he:∀x,(e x).cells.length=sz) (l:List α):zfL sz ((l.map e).map V.d)=true:=by
 cases l with
 |nil=>rfl
 |cons x l=>simp[zfL,zki,he]
def loV:Option Int→Int|none=>0|some i=>i
def hiV (n:Nat):Option Int→Int|none=>n|some i=>i
def zCM:Option Int→Option (Option Nat)|none=>some none|some i=>if 0≤i then some (some i.toNat)else none
theorem zyv {h:Heap} {sz:Nat} {α:Type} {e:α→D} {n:Bool} {l m:List α} {lo hi:Option Int} (hz:sz≠0) (he:∀x,(e x).cells.length=sz) (hc:cut l (loV lo) (hiV l.length hi)=some m):znS h sz (.d (.list n (l.map e))) (zCM lo) (zCM hi) (some none)=some (.d (.list n (m.map e))):=by
 unfold cut at hc
 split at hc
 ·rename_i hh
  cases hc
  obtain⟨h1,h2,h3⟩:=hh
  have e1:zCM lo=some (lo.map Int.toNat):=by cases lo with|none=>rfl|some i=>simp[zCM];exact h1
  have e2:zCM hi=some (hi.map Int.toNat):=by cases hi with|none=>rfl|some i=>simp only[hiV]at h2;simp[zCM];omega
  rw[e1,e2]
  have e3:(lo.map Int.toNat).getD 0=(loV lo).toNat:=by cases lo<;>rfl
  have e4:(hi.map Int.toNat).getD (l.map e).length=(hiV l.length hi).toNat:=by cases hi<;>simp[hiV]
  simp only[znS,zbx,e3,e4]
  rw[if_pos ⟨hz,by omega,by simp only[List.length_map];omega,zlk he l⟩]
  simp only[List.map_drop,List.map_take]
 ·cases hc
section
variable {A:AProg} {g:Rg} {rest:List (SOp×Option (Nat×Bool))} {i fr sz bytes:Nat} {env:Regs} {H:Heap}
theorem zuR {α:Type} {e:α→D} {n:Bool} {l m:List α} {lo hi:Option Int} {x:Option V} (hx:x=znS H sz (.d (.list n (l.map e))) (zCM lo) (zCM hi) (some none)) (hz:sz≠0) (he:∀x,(e x).cells.length=sz) (hc:cut l (loV lo) (hiV l.length hi)=some m) (k:zfm g rest (i+1) (env.set i (.d (.list n (m.map e)))) H):zmq g rest i env (keep H x):=by
 rw[hx,zyv hz he hc];exact k
theorem zkJ {sv:V} {dst:V} (he:zbC H sv=some []) (hd:dst.isSl=true) (k:zfm g rest (i+1) (env.set i dst) H):zmq g rest i env (zlw H fr sz bytes dst sv):=by
 rw[zfz,he,zoK hd];exact k
end
theorem zfU {α:Type} {sz:Nat} {e:α→D} (h1:∀x,(e x).cells.length=sz) (h2:∀x,((V.d (e x)).cells.all V.one)=true) (l:List α):sized sz ((l.map e).map V.d)=true:=by
 rw[List.map_map];exact sized_map (f:=fun x=>V.d (e x)) (fun x=>by simpa[zki]using h1 x) h2 l
theorem zfh {α:Type} {e:α→D} {l:List α}:(l.map e).map V.d=l.map fun z=>V.d (e z):=by rw[List.map_map];rfl
theorem zyw {b:Nat} {l:List V}:kindOf (mb b l)= .slice:=by cases l<;>rfl
section
variable {A:AProg} {g:Rg} {rest:List (SOp×Option (Nat×Bool))} {i:Nat} {env:Regs} {H:Heap}
def zik (g:Rg) (rest:List (SOp×Option (Nat×Bool))) (i:Nat) (env:Regs) (v:V) (h:Heap):Prop:=zfm g rest (i+1) (env.set i v) h
theorem zuS {v:V} {h:Heap}:zik g rest i env v h=zfm g rest (i+1) (env.set i v) h:=rfl
theorem zcm {f:FuncId} {fn:AFn} {args:List V} (hp:A.prim f=none) (hf:A.fns f=some fn) (hb:Wp A fn.body {r:=fun i=>args.getD i .undef,h:=H} (zcJ fn.results (zik g rest i env))):zmq g rest i env (ans A (.d (.fn f)) args H):=by
 obtain⟨v,h',e,r⟩:=zvV hp hf hb
 rw[e];exact r
theorem zyx {f:FuncId} {fn:AFn} {args first cap:List V} (hp:A.prim f=none) (hf:A.fns f=some fn) (hb:Wp A fn.body {r:=fun i=>(first++args++cap).getD i .undef,h:=H} (zcJ fn.results (zik g rest i env))):zmq g rest i env (ans A (.clo f first cap) args H):=by
 obtain⟨v,h',e,r⟩:=znQ hp hf hb
 rw[e];exact r
end
def zaI (n:Fx) (v:V):Prop:=∀f:Nat→Nat,(∀b,n.has b→f b=b)→VR f v v
def zaN (n:Fx) (r:Regs):Prop:=∀i,zaI n (r i)
theorem zaI.undef {n:Fx}:zaI n .undef:=fun _ _=> .undef _
theorem zaI.d {n:Fx} {x:D}:zaI n (.d x):=fun _ _=> .d x
theorem zaI.rp {n:Fx} {o:Nat} {x:D}:zaI n (.rp x o):=fun _ _=> .rp x o
theorem zaI.ptr {n:Fx} {b i o:Nat} (h:n.has b):zaI n (.ptr b i o):=fun _ hf=> .ptr' (hf b h)
theorem zaI.sl {n:Fx} {b i o:Nat} (h:n.has b):zaI n (.sl b i o):=fun _ hf=> .sl' (hf b h)
theorem zaI.map {n:Fx} {b:Nat} (h:n.has b):zaI n (.map b):=fun _ hf=> .map' (hf b h)
theorem zaI.yld {n:Fx} {b:Nat} (h:n.has b):zaI n (.yld b):=fun _ hf=> .yld' (hf b h)
theorem zaI.mb {n:Fx} {b:Nat} {l:List V} (h:n.has b):zaI n (mb b l):=fun _ hf=> .mb (hf b h)
def zbi (n:Fx):List V→Prop
 |[]=>True
 |v::l=>zaI n v∧zbi n l
theorem zbi.nil {n:Fx}:zbi n []:=trivial
theorem zbi.cons {n:Fx} {v:V} {l:List V} (a:zaI n v) (b:zbi n l):zbi n (v::l):=⟨a,b⟩
theorem zbi.vrl {n:Fx} {f:Nat→Nat} (hf:∀b,n.has b→f b=b):∀{l:List V},zbi n l→VRL f l l
 |[],_=> .nil
 |_::_,h=> .cons (h.1 f hf) (zbi.vrl hf h.2)
theorem zaI.clo {n:Fx} {g:FuncId} {a b:List V} (h:zbi n a) (k:zbi n b):zaI n (.clo g a b):=fun _ hf=> .clo' (h.vrl hf) (k.vrl hf)
theorem zaI.ofCells {n:Fx} {a:List V} (h:zbi n a):zaI n (V.ofCells a):=fun _ hf=>(h.vrl hf).ofCells
theorem zaI.agg {n:Fx} {a:List V} (h:zbi n a):zaI n (.agg a):=fun _ hf=>(h.vrl hf).agg
theorem zaI.tuple {n:Fx} {a:List V} (h:zbi n a):zaI n (.tuple a):=fun _ hf=>(h.vrl hf).tuple
theorem zaI.bif {n:Fx} {c:Bool} {a b:V} (h:zaI n a) (k:zaI n b):zaI n (bif c then a else b):=by cases c;exact k;exact h
theorem zaN.no {n:Fx}:zaN n zdd:=fun _=> .undef
theorem zaN.none {n:Fx}:zaN n Regs.none:=fun _=> .undef
theorem zaN.set {n:Fx} {r:Regs} {t:Nat} {v:V} (h:zaI n v) (k:zaN n r):zaN n (r.set t v):=fun i=>by
 rw[Regs.set_at];split
 ·exact h
 ·exact k i
theorem zbi.get {n:Fx}:∀{l:List V},zbi n l→∀i,zaI n (l.getD i .undef)
 |[],_,i=>by simp;exact .undef
 |v::l,h,0=>h.1
 |v::l,h,i+1=>by simpa using zbi.get h.2 i
theorem zaN.args {n:Fx} {l:List V} (h:zbi n l):zaN n (fun i=>l.getD i .undef):=fun i=>h.get i
theorem Clo.mono {n n':Fx} {Q:Ex→St→Prop} (hn:Fx.le n' n=true) (h:Clo n' Q):Clo n Q:=fun e s t hs hq=>h e s t (hs.sub hn) hq
theorem zjF {A:AProg} (hA:A.Loc) {n n':Fx} {g:Rg} {rest:List (SOp×Option (Nat×Bool))} {i:Nat} {env:Regs} (hg:g.A=A) (hops:g.ops.zipIdx.all (zhu g.pairs)=true) (hrest:rest=g.ops.drop (i+1)) (henv:zaN n env) (hr:zaN n g.r) (hb:Fx.spans n g.base g.ops.length=true) (hn:Fx.le n' n=true) (hQ:Clo n' g.Q) {f:Nat→Nat} (hf:∀b,n.has b→f b=b) {v v':V} {h h':Heap} (h4:VR f v v') {E:Nat→Option Blk} (H:HR E f h h') (h2:zfm g rest (i+1) (env.set i v) h):zfm g rest (i+1) (env.set i v') h':=by
 obtain⟨k,env',hF0,e1,hp,hq⟩:=h2
 have hl0:∀x∈g.ops.zipIdx 0,zhu g.pairs x=true:=by simpa[List.all_eq_true]using hops
 have hl:∀x∈rest.zipIdx (i+1),zhu g.pairs x=true:=by
  intro x hx
  refine hl0 x ?_
  obtain⟨o,j⟩:=x
  rw[List.mem_zipIdx_iff_le_and_getElem?_sub]at hx
  rw[List.mem_zipIdx_iff_getElem?]
  obtain⟨h5,h6⟩:=hx
  rw[hrest,List.getElem?_drop]at h6
  rw[show i+1+(j-(i+1))=j by omega]at h6
  simpa using h6
 have hbl:∀j,g.pairs.contains (j,j)=true→zbR (env' j)=true:=fun j hj=>by
  simp only[zbn,List.all_eq_true]at hp
  have:=hp (j,j) (by simpa using hj)
  simpa using this
 have hgd:∀(k:Nat) o j w,g.ops[k]? =some (o,some (j,w))→zbR (env' j)=true:=fun k o j w hk=>by
  have:=hl0 ((o,some (j,w)),k) (List.mem_zipIdx_iff_getElem?.2 (by simpa using hk))
  simp only[zhu,Bool.and_eq_true]at this
  exact hbl j this.2.2
 have hbs:∀j,j<g.ops.length→f (g.base+j)=g.base+j:=fun j hj=>hf _ (Fx.spans_has hb hj)
 by_cases hi:i+1≤g.ops.length
 ·have hlen:i+1+rest.length≤g.ops.length:=by rw[hrest,List.length_drop];omega
  obtain⟨envF,hF,e2,he2,H2⟩:=zfg (zjE (hg▸hA) k) (N:=g.ops.length) hbs (fun j=>hr j f hf) hbl rest hlen hl (zij (fun j=>henv j f hf) h4 i) H e1
  exact⟨k,envF,hF,e2,zkH H.inj hbs he2 (fun j=>hr j f hf) hgd hp,hQ _ _ _ ⟨f,fun b hb=>hf b (Fx.le_has hn hb),_,zjD he2 g.outs (fun j=>hr j f hf),H2⟩ hq⟩
 ·have hnil:rest=[]:=by rw[hrest,List.drop_eq_nil_of_le (by omega)]
  subst hnil
  simp only[zbj,Option.some.injEq,Prod.mk.injEq]at e1
  obtain⟨rfl,rfl⟩:=e1
  have he2:∀j,VR f (env.set i v j) (env.set i v' j):=zij (fun j=>henv j f hf) h4 i
  exact⟨k,_,_,rfl,zkH H.inj hbs he2 (fun j=>hr j f hf) hgd hp,hQ .normal {r:=zew (env.set i v) g.outs g.r,h:=h} _ ⟨f,fun b hb=>hf b (Fx.le_has hn hb),_,zjD he2 g.outs (fun j=>hr j f hf),H⟩ hq⟩
theorem Clo.inl {A:AProg} (hA:A.Loc) {n n':Fx} {g:Rg} {rs:List RV} {rest:List (SOp×Option (Nat×Bool))} {i:Nat} {env:Regs} (hg:g.A=A) (hops:g.ops.zipIdx.all (zhu g.pairs)=true) (hrest:rest=g.ops.drop (i+1)) (henv:zaN n env) (hr:zaN n g.r) (hb:Fx.spans n g.base g.ops.length=true) (hn:Fx.le n' n=true) (hQ:Clo n' g.Q):Clo n (zcJ rs (zik g rest i env)):=fun e s t ⟨f,hf,_,S⟩ hq=>by
 have key:∀{vs:List V},zaY s rs=some vs→zik g rest i env (oneOr vs) s.h→∃vs',zaY t rs=some vs'∧zik g rest i env (oneOr vs') t.h:=by
  intro vs h1 h2
  obtain⟨vs',h3,h4⟩:=zco S h1
  exact⟨vs',h3,zjF hA hg hops hrest henv hr hb hn hQ hf h4.oneOr S.h h2⟩
 cases e with
 |normal=>obtain⟨vs,h1,h2⟩:=hq;exact key h1 h2
 |ret=>obtain⟨vs,h1,h2⟩:=hq;exact key h1 h2
 |exit id=>exact hq
def Ex.jmp:Ex→Option Jump| .normal=>none| .exit id=>some (.exit id)| .ret=>some .ret
def Jump.exo:Option Jump→Ex|none=> .normal|some j=>j.ex
def zGC (b:Nat) (s:St) (Q:Ex→St→Prop) (h:Heap):Option Blk→Prop
 |some (.loop l)=>l.state≠.busy∧Q (Jump.exo l.pending) {r:=s.r,h:=h.put b (.loop {l with state:= .exhausted})}
 |_=>False
def zoR (b:Nat) (s:St) (Q:Ex→St→Prop) (_:V) (h:Heap):Prop:=zGC b s Q h (h.get b)
theorem zkK {b:Nat} {s:St} {Q:Ex→St→Prop} {v:V} {h:Heap}:zoR b s Q v h=zGC b s Q h (h.get b):=rfl
theorem zlQ {b:Nat} {s:St} {Q:Ex→St→Prop} {h:Heap} {l:LoopB}:zGC b s Q h (some (.loop l))=(l.state≠.busy∧Q (Jump.exo l.pending) {r:=s.r,h:=h.put b (.loop {l with state:= .exhausted})}):=rfl
theorem zCN:Jump.exo none= .normal:=rfl
theorem zGD:Jump.exo (some .ret)= .ret:=rfl
theorem zCO {id:Nat}:Jump.exo (some (.exit id))= .exit id:=rfl
theorem zuT:Ex.jmp .normal=none:=rfl
theorem zGE:Ex.jmp .ret=some .ret:=rfl
theorem zCP {id:Nat}:Ex.jmp (.exit id)=some (.exit id):=rfl
theorem Wp.rfuncC {A:AProg} {s:St} {Q:Ex→St→Prop} {f:Opd} {ps:List Nat} {c d:C} {k:FuncId} {fn:AFn} {first cap:List V} (hv:opd zdd s.r f= .clo k first cap) (hp:A.prim k=none) (hf:A.fns k=some fn) (hb:Wp A fn.body {r:=fun i=>(first++[V.yld s.h.next]++cap).getD i .undef,h:=(s.h.put s.h.next (.loop {regs:=s.r,params:=ps,assign:=c,body:=d,state:= .ready,pending:=none})).bump 1} (zcJ fn.results (zoR s.h.next s Q))):Wp A (.rfunc f ps c d) s Q:=by
 obtain⟨v,h',e,r⟩:=znQ hp hf hb
 rw[zkK]at r
 refine Wp.rfunc (by rw[hv];rfl) ⟨v,h',by rw[hv];exact e,?_⟩
 cases hg:h'.get s.h.next with
 |none=>rw[hg]at r;exact r.elim
 |some x=>
  rw[hg]at r
  cases x with
  |loop l=>
   refine⟨l,rfl,r.1,?_⟩
   have:=r.2
   cases hpd:l.pending with
   |none=>rw[hpd]at this;exact this
   |some j=>rw[hpd]at this;exact this
  |_=>exact r.elim
section
variable {A:AProg} {g:Rg} {rest:List (SOp×Option (Nat×Bool))} {i:Nat} {env:Regs} {H:Heap}
def zOe (g:Rg) (rest:List (SOp×Option (Nat×Bool))) (i:Nat) (env:Regs) (b:Nat) (e:Ex) (h:Heap):Option Blk→Prop
 |some (.loop l)=>zfm g rest (i+1) (env.set i (.d (.bool e.jmp.isNone))) (h.put b (.loop {l with state:=if e.jmp.isNone=true then .ready else .done,pending:=e.jmp}))
 |_=>False
def zGF (g:Rg) (rest:List (SOp×Option (Nat×Bool))) (i:Nat) (env:Regs) (b:Nat) (e:Ex) (s:St):Prop:=zOe g rest i env b e s.h (s.h.get b)
theorem zmM {b:Nat} {e:Ex} {s:St}:zGF g rest i env b e s=zOe g rest i env b e s.h (s.h.get b):=rfl
theorem zhy {b:Nat} {e:Ex} {h:Heap} {l:LoopB}:zOe g rest i env b e h (some (.loop l))=zfm g rest (i+1) (env.set i (.d (.bool e.jmp.isNone))) (h.put b (.loop {l with state:=if e.jmp.isNone=true then .ready else .done,pending:=e.jmp})):=rfl
def zOf (A:AProg) (body:C) (Q:Ex→St→Prop) (b:Nat) (s:St):Option Blk→Prop
 |some (.loop l)=>l.state= .ready∧Wp A body {r:=s.r,h:=s.h.put b (.loop {l with state:= .busy})} Q
 |_=>False
def zGG (A:AProg) (body:C) (Q:Ex→St→Prop) (b:Nat):Ex→St→Prop
 | .normal,s=>zOf A body Q b s (s.h.get b)
 |_,_=>False
theorem zfC {body:C} {Q:Ex→St→Prop} {b:Nat} {s:St}:zGG A body Q b .normal s=zOf A body Q b s (s.h.get b):=rfl
theorem zyy {body:C} {Q:Ex→St→Prop} {b:Nat} {s:St} {l:LoopB}:zOf A body Q b s (some (.loop l))=(l.state= .ready∧Wp A body {r:=s.r,h:=s.h.put b (.loop {l with state:= .busy})} Q):=rfl
theorem zsn {b:Nat} {args:List V} {L:LoopB} {r1:Regs} (hl:H.get b=some (.loop L)) (hr:zbh L.params args L.regs=some r1) (hb:Wp A L.assign {r:=r1,h:=H} (zGG A L.body (zGF g rest i env b) b)):zmq g rest i env (ans A (.yld b) args H):=by
 obtain⟨n1,e1,s1,h1,q1⟩:=hb
 cases e1 with
 |normal=>
  rw[zfC]at q1
  cases hg:s1.h.get b with
  |none=>rw[hg]at q1;exact q1.elim
  |some x=>
   rw[hg]at q1
   cases x with
   |loop L1=>
    obtain⟨hs,n2,e2,s2,h2,q2⟩:=q1
    rw[zmM]at q2
    cases hg2:s2.h.get b with
    |none=>rw[hg2]at q2;exact q2.elim
    |some y=>
     rw[hg2]at q2
     cases y with
     |loop L2=>
      rw[zhy]at q2
      have e:ans A (.yld b) args H=some (.d (.bool e2.jmp.isNone),s2.h.put b (.loop {L2 with state:=if e2.jmp.isNone=true then .ready else .done,pending:=e2.jmp})):=by
       refine zcQ.2 ⟨max n1 n2+1,?_⟩
       simp only[zeq,round,hl,hr,Option.bind_some]
       rw[zbu (zbS (Nat.le_max_left n1 n2)) (Nat.le_max_left n1 n2) h1]
       simp only[hg]
       rw[if_pos hs,zbu (zbS (Nat.le_max_right n1 n2)) (Nat.le_max_right n1 n2) h2]
       simp only[Option.bind_some,hg2]
       cases e2<;>rfl
      rw[e];exact q2
     |_=>exact q2.elim
   |_=>exact q1.elim
 |exit id=>exact q1.elim
 |ret=>exact q1.elim
end
theorem zmN {r:Regs}:zbh [] [] r=some r:=rfl
theorem zll {t:Nat} {ts:List Nat} {v:V} {vs:List V} {r:Regs}:zbh (t::ts) (v::vs) r=zbh ts vs (r.set t v):=rfl
theorem Clo.rf {n n':Fx} {b:Nat} {s:St} {rs:List RV} {Q:Ex→St→Prop} (hr:zaN n s.r) (hb:n.has b) (hn:Fx.le n' n=true) (hQ:Clo n' Q):Clo n (zcJ rs (zoR b s Q)):=fun e s1 t ⟨f,hf,E,S⟩ hq=>by
 have key:∀{vs:List V},zaY s1 rs=some vs→zoR b s Q (oneOr vs) s1.h→∃vs',zaY t rs=some vs'∧zoR b s Q (oneOr vs') t.h:=by
  intro vs h1 h2
  obtain⟨vs',h3,h4⟩:=zco S h1
  refine⟨vs',h3,?_⟩
  rw[zkK]at h2⊢
  cases hg:s1.h.get b with
  |none=>rw[hg]at h2;exact h2.elim
  |some x=>
   rw[hg]at h2
   cases x with
   |loop l=>
    obtain⟨l',hl',r1,r2,r3,r4,r5,r6,r7,r8⟩:=S.h.loop hg
    rw[hf b hb]at hl'
    rw[hl',zlQ,r5,r6]
    refine⟨h2.1,hQ _ {r:=s.r,h:=s1.h.put b (.loop {l with state:= .exhausted})} _ ⟨f,fun c hc=>hf c (Fx.le_has hn hc),E,fun j=>hr j f hf,?_⟩ h2.2⟩
    have:=S.h.put (.loop (L:={l with state:= .exhausted}) (L':={l' with state:= .exhausted}) r1 r2 r3 r4 rfl r6 r7 r8) b
    rw[hf b hb,r6]at this
    exact this
   |_=>exact h2.elim
 cases e with
 |normal=>obtain⟨vs,h1,h2⟩:=hq;exact key h1 h2
 |ret=>obtain⟨vs,h1,h2⟩:=hq;exact key h1 h2
 |exit id=>exact hq
theorem Clo.yld {A:AProg} (hA:A.Loc) {n n':Fx} {b:Nat} {g:Rg} {rest:List (SOp×Option (Nat×Bool))} {i:Nat} {env:Regs} (hg:g.A=A) (hops:g.ops.zipIdx.all (zhu g.pairs)=true) (hrest:rest=g.ops.drop (i+1)) (henv:zaN n env) (hr:zaN n g.r) (hb:Fx.spans n g.base g.ops.length=true) (hbn:n.has b) (hn:Fx.le n' n=true) (hQ:Clo n' g.Q):Clo n (zGF g rest i env b):=fun e s t ⟨f,hf,_,S⟩ hq=>by
 rw[zmM]at hq⊢
 cases hl:s.h.get b with
 |none=>rw[hl]at hq;exact hq.elim
 |some x=>
  rw[hl]at hq
  cases x with
  |loop l=>
   obtain⟨l',hl',r1,r2,r3,r4,r5,r6,r7,r8⟩:=S.h.loop hl
   rw[hf b hbn]at hl'
   rw[hl',zhy]
   rw[zhy]at hq
   have:=S.h.put (.loop (L:={l with state:=if e.jmp.isNone=true then .ready else .done,pending:=e.jmp}) (L':={l' with state:=if e.jmp.isNone=true then .ready else .done,pending:=e.jmp}) r1 r2 r3 r4 rfl rfl r7 r8) b
   rw[hf b hbn]at this
   exact zjF hA hg hops hrest henv hr hb hn hQ hf (.d _) this hq
  |_=>exact hq.elim
theorem zar.loop {f:Nat→Nat} {r r':Regs} {ps:List Nat} {a b:C} {s:LSt} {j:Option Jump} (hr:zae f r r') (la:a.loc=true) (lb:b.loc=true):zar f (some (.loop ⟨r,ps,a,b,s,j⟩)) (some (.loop ⟨r',ps,a,b,s,j⟩)):=BR.loop hr rfl rfl rfl rfl rfl la lb
theorem zck {cs:List V}:V.cells (ofC cs (allD cs))=cs:=by
 cases hd:allD cs with
 |none=>rfl
 |some ds=>rw[zdo hd];rfl
theorem zGH {cs:List V} {off:Nat}:V.sub (ofC cs (allD cs)) off none=cs[off]? :=by simp only[V.sub,zck]
theorem zre {cs:List V} {n:Nat} (h:cs.length=n):V.sub (ofC cs (allD cs)) 0 (some n)=some (ofC cs (allD cs)):=by
 simp only[V.sub,zck,h]
 rw[if_pos (by omega),List.drop_zero,List.take_of_length_le (by omega),zeC]
theorem zej {cs l:List V}:V.like (ofC cs (allD cs)) l=V.ofCells l:=by
 cases hd:allD cs with
 |none=>rfl
 |some ds=>rfl
theorem zdc {e v:V} {cs:List V} {off:Nat} (he:e.cells=cs) (hl:∀l,V.like e l=V.ofCells l) (hx:v.cells=[v]) (h1:v.one=true) (h:off<cs.length):V.upd e off 1 v=some (V.ofCells (cs.set off v)):=by
 unfold V.upd
 rw[he,hx,hl]
 rw[if_pos ⟨rfl,by decide,by omega,by simp[h1]⟩]
 congr 2
 unfold splice
 simp only[List.length_singleton]
 rw[List.set_eq_take_append_cons_drop,if_pos h]
 simp
theorem zjG {b:Nat} {l:List V}:(mb b l).cells=[mb b l]:=by cases l<;>rfl
theorem zso {b:Nat} {l:List V}:(mb b l).one=true:=by cases l<;>rfl
theorem zCQ {cs l:List V} {off b:Nat} (h:off<cs.length):V.upd (ofC cs (allD cs)) off 1 (mb b l)=some (V.ofCells (cs.set off (mb b l))):=zdc zck (fun _=>zej) zjG zso h
theorem zCR {cs:List V} {off b i n:Nat} (h:off<cs.length):V.upd (ofC cs (allD cs)) off 1 (.sl b i n)=some (V.ofCells (cs.set off (.sl b i n))):=zdc zck (fun _=>zej) rfl rfl h
theorem zyz {cs:List V} {off:Nat} {k:IntKind} {n:Int} (h:off<cs.length):V.upd (ofC cs (allD cs)) off 1 (.d (.int k n))=some (V.ofCells (cs.set off (.d (.int k n)))):=zdc zck (fun _=>zej) rfl rfl h
theorem zuU {cs:List V} {off:Nat} {n:Bool} (h:off<cs.length):V.upd (ofC cs (allD cs)) off 1 (.d (.bool n))=some (V.ofCells (cs.set off (.d (.bool n)))):=zdc zck (fun _=>zej) rfl rfl h
theorem zyA {cs:List V} {off:Nat} {n:List UInt8} (h:off<cs.length):V.upd (ofC cs (allD cs)) off 1 (.d (.str n))=some (V.ofCells (cs.set off (.d (.str n)))):=zdc zck (fun _=>zej) rfl rfl h
theorem zuV {cs:List V} {off:Nat} {n:Bool} {l:List D} (h:off<cs.length):V.upd (ofC cs (allD cs)) off 1 (.d (.list n l))=some (V.ofCells (cs.set off (.d (.list n l)))):=zdc zck (fun _=>zej) rfl rfl h
theorem zCS {cs l:List V} {off b:Nat} (h:off<cs.length):V.upd (.agg cs) off 1 (mb b l)=some (V.ofCells (cs.set off (mb b l))):=zdc rfl (fun _=>rfl) zjG zso h
theorem zCT {cs:List D} {l:List V} {off b:Nat} (h:off<cs.length):V.upd (.d (.agg cs)) off 1 (mb b l)=some (V.ofCells ((cs.map V.d).set off (mb b l))):=zdc rfl (fun _=>rfl) zjG zso (by simpa using h)
theorem zKe {b:Nat} {l:List V} {n:Bool} {m:List D}:V.upd (mb b l) 0 1 (.d (.list n m))=some (.d (.list n m)):=by cases l<;>rfl
theorem zKf {b b' i n:Nat} {l:List V}:V.upd (mb b l) 0 1 (.sl b' i n)=some (.sl b' i n):=by cases l<;>rfl
theorem zKg {b b':Nat} {l m:List V}:V.upd (mb b l) 0 1 (mb b' m)=some (mb b' m):=by cases l<;>cases m<;>rfl
theorem zKh {b:Nat} {l:List V} {n:Bool} {m:List D}:V.upd (.d (.list n m)) 0 1 (mb b l)=some (mb b l):=by cases l<;>rfl
theorem zKi {b:Nat} {l:List V}:V.sub (mb b l) 0 none=some (mb b l):=by simp only[V.sub,zjG];rfl
theorem zCU {b:Nat} {l:List V}:boxed (mb b l)=some (.els 1 [mb b l] 0):=by cases l<;>rfl
theorem zyB {cs:List V}:boxed (ofC cs (allD cs))=some (.els cs.length [ofC cs (allD cs)] 0):=by
 cases hd:allD cs with
 |none=>rfl
 |some ds=>rw[zdo hd];simp[ofC,boxed,V.cells,D.cells]
theorem zkL {e:V} {cs xs:List V} {n:Nat} (he:e.cells=cs) (hl:∀l,V.like e l=V.ofCells l) (hc:cs.length=n) (hx:xs.length=n) (h0:0<n) (h1:xs.all V.one=true):V.upd e 0 n (ofC xs (allD xs))=some (ofC xs (allD xs)):=by
 unfold V.upd
 rw[he,zck,hl]
 rw[if_pos ⟨hx,h0,by omega,h1⟩]
 unfold splice
 simp only[List.take_zero,List.nil_append]
 rw[List.drop_eq_nil_of_le (by omega),List.append_nil,zeC]
theorem zyC {cs:List D} {xs:List V} {n:Nat} (hc:cs.length=n) (hx:xs.length=n) (h0:0<n) (h1:xs.all V.one=true):V.upd (.d (.agg cs)) 0 n (ofC xs (allD xs))=some (ofC xs (allD xs)):=zkL rfl (fun _=>rfl) (by simpa[V.cells,D.cells]using hc) hx h0 h1
theorem zyD {cs xs:List V} {n:Nat} (hc:cs.length=n) (hx:xs.length=n) (h0:0<n) (h1:xs.all V.one=true):V.upd (.agg cs) 0 n (ofC xs (allD xs))=some (ofC xs (allD xs)):=zkL rfl (fun _=>rfl) hc hx h0 h1
theorem zyE {cs xs:List V} {n:Nat} (hc:cs.length=n) (hx:xs.length=n) (h0:0<n) (h1:xs.all V.one=true):V.upd (ofC cs (allD cs)) 0 n (ofC xs (allD xs))=some (ofC xs (allD xs)):=zkL zck (fun _=>zej) hc hx h0 h1
theorem zKj {b:Nat} {l:List V}:V.one (mb b l)=true:=zso
theorem zGI {b i n:Nat}:V.one (.sl b i n)=true:=rfl
theorem zyF {k:IntKind} {n:Int}:V.one (.d (.int k n))=true:=rfl
theorem zuW {n:Bool}:V.one (.d (.bool n))=true:=rfl
theorem zyG {n:List UInt8}:V.one (.d (.str n))=true:=rfl
theorem zuX {n:Bool} {l:List D}:V.one (.d (.list n l))=true:=rfl
theorem VRL.ofC {f:Nat→Nat} {l l':List V} (h:VRL f l l'):VR f (AI.ofC l (AI.allD l)) (AI.ofC l' (AI.allD l')):=by
 rw[←zeC,←zeC];exact h.ofCells
theorem zyH {b i o:Nat}:isNil (.ptr b i o)=some false:=rfl
theorem zCV {x:D} {o:Nat}:isNil (.rp x o)=some false:=rfl
theorem zCW {b i o:Nat}:isNil (.sl b i o)=some false:=rfl
theorem zyI {f:FuncId} {a b:List V}:isNil (.clo f a b)=some false:=rfl
theorem zyJ {b:Nat}:isNil (.map b)=some false:=rfl
theorem zuY {n:Bool} {l:List D}:isNil (.d (.list n l))=some n:=rfl
theorem zCX {f:FuncId}:isNil (.d (.fn f))=some false:=rfl
section
variable {K α:Type} [DecidableEq K] {ks:List CK} {e:K→D} {ev:α→D} {h:Heap} {k:K} {l:List (K×α)} {z a:α} {b c:Nat}
def zhW (k:K) (l:List (K×α)) (z:α):α:=match zbB k l 0 with|some (a,_)=>a|none=>z
def zQs (k:K) (l:List (K×α)):Bool:=(zbB k l 0).isSome
def zJg (k:K) (z:α) (l:List (K×α)):List (K×α):=match zbB k l 0 with|some _=>l|none=>l++[(k,z)]
def zML (k:K) (l:List (K×α)):Nat:=match zbB k l 0 with|some (_,i)=>i|none=>l.length
theorem zaD (hk:Keyed ks e):zqM ks (ev z) (e k) false h (some (.map (ents e (fun a=>V.d (ev a)) l 0) c))=some (.d (ev (zhW k l z)),h):=by
 rw[zlO hk]
 unfold zhW
 cases zbB k l 0<;>rfl
theorem zaE (hk:Keyed ks e):zqM ks (ev z) (e k) true h (some (.map (ents e (fun a=>V.d (ev a)) l 0) c))=some (.d (.tuple [ev (zhW k l z),.bool (zQs k l)]),h):=by
 rw[zlO hk]
 unfold zhW zQs
 cases zbB k l 0<;>rfl
theorem zCY (h:Heap) {b:Nat} {x:Blk} (hb:h.get b=some x):h.put b x=h:=by
 have:(h.put b x).get=h.get:=by
  funext c
  rw[Heap.put_at]
  split
  ·rename_i hc;subst hc;exact hb.symm
  ·rfl
 cases h;simp only[Heap.put,Heap.set]at this⊢;rw[this]
theorem zay (hk:Keyed ks e) (hb:h.get b=some (.map (ents e (fun a=>V.d (ev a)) l 0) l.length)):zjm ks (ev z) (e k) b h (some (.map (ents e (fun a=>V.d (ev a)) l 0) l.length))=some (.d (.tuple [ev (zhW k l z),.int .i64 (zML k l)]),h.put b (.map (ents e (fun a=>V.d (ev a)) (zJg k z l) 0) (zJg k z l).length)):=by
 unfold zhW zML zJg
 cases hf:zbB k l 0 with
 |some x=>
  obtain⟨a,i⟩:=x
  rw[zqP hk hf]
  simp only
  rw[zCY h hb]
  rfl
 |none=>
  rw[zqQ (z:=z) hk rfl hf rfl]
  simp only[List.length_append,List.length_cons,List.length_nil,Nat.zero_add]
  rfl
theorem zrf:zig (zML k l) (.d (ev a)) b h (some (.map (ents e (fun a=>V.d (ev a)) (zJg k z l) 0) (zJg k z l).length))=some (.undef,h.put b (.map (ents e (fun a=>V.d (ev a)) (zfy k a l) 0) (zfy k a l).length)):=by
 unfold zML zJg
 cases hf:zbB k l 0 with
 |some x=>
  obtain⟨a',i⟩:=x
  simp only
  rw[zjn (f:=fun a=>V.d (ev a)) hf,zdg l 0 (by rw[hf];rfl)]
 |none=>
  simp only
  have:=zoJ (k:=k) (a:=z) hf
  simp only[Nat.zero_add]at this
  rw[zjn (f:=fun a=>V.d (ev a)) this,zsh hf,zkB k a l 0 hf]
  simp
theorem zaF (hk:Keyed ks e):zux ks (e k) (.d (ev a)) b h (some (.map (ents e (fun a=>V.d (ev a)) l 0) l.length))=some (.undef,h.put b (.map (ents e (fun a=>V.d (ev a)) (zfy k a l) 0) (zfy k a l).length)):=zuB (f:=fun a=>V.d (ev a)) hk rfl
theorem zaG (hb:h.get b=some (.map (ents e (fun a=>V.d (ev a)) l 0) c)):zlv h .map (.map b)=some l.length:=by
 simp only[zlv,hb,zkA]
theorem MRL.refl_d {f:Nat→Nat}:∀(l:List (K×α)) (t:Nat),MRL f (ents e (fun a=>V.d (ev a)) l t) (ents e (fun a=>V.d (ev a)) l t)
 |[],_=> .nil
 |_::l,t=> .cons ⟨rfl,.d _,rfl⟩ (MRL.refl_d l (t+1))
theorem zar.map_d {f:Nat→Nat}:zar f (some (.map (ents e (fun a=>V.d (ev a)) l 0) c)) (some (.map (ents e (fun a=>V.d (ev a)) l 0) c)):=BR.map (MRL.refl_d l 0)
end
class Inj {α:Type} (e:α→D):Prop where
 inj:∀a b,e a=e b→a=b
instance {k:IntKind}:Inj (D.int k):=⟨fun a b h=>by cases h;rfl⟩
instance:Inj D.bool:=⟨fun a b h=>by cases h;rfl⟩
instance:Inj D.str:=⟨fun a b h=>by cases h;rfl⟩
theorem zdh {α:Type} {e:α→D} [Inj e] {l m:List α}:l.map e=m.map e↔l=m:=⟨fun h=>(List.map_inj_right (fun a b hab=>Inj.inj a b hab)).1 h,fun h=>by rw[h]⟩
instance {α:Type} {e:α→D} [Inj e]:Inj (eSl e):=⟨fun a b h=>by
 obtain⟨n,l⟩:=a
 obtain⟨m,k⟩:=b
 simp only[eSl,D.list.injEq,zdh]at h
 obtain⟨rfl,rfl⟩:=h;rfl⟩
section
variable {α β γ δ ε:Type} {e:α→D} {f:β→D} {g:γ→D} {k:δ→D} {m:ε→D}
theorem zap [Inj e] {a:α}:dec e (some (e a))=some a:=zJY Inj.inj a
end
attribute [go_sem] zFO Int.toNat_natCast zrf zNY List.length_map zyu zkE zJZ zKa zKb zKc decide_true decide_false Heap.at_get Heap.at_next Regs.none_at Heap.set_at Heap.set_next zJW zGw zGz zGA zCJ zGH zre zej zCQ zCR zyz zuU zyA zuV zCS zCT zKe zKf zKg zKh zKi zCU zyB zyC zyD zyE zKj zGI zyF zuW zyG zuX zyH zCV zCW zyI zyJ zuY zCX List.isEmpty_nil List.isEmpty_cons Bool.and_false Bool.false_and zKd zGB zoQ zCK zyw zkK zlQ zCN zGD zCO zuT zGE zCP zmM zhy zfC zyy zmN zll Option.isNone_none Option.isNone_some ne_eq not_false_eq_true zuS List.append_nil List.nil_append List.cons_append zyn zuQ zyo zyp zyq zyr
attribute [go_sem] zCI zsm zoP zqZ zra zrb zrc
attribute [go_sem] Int.reduceEq Nat.reduceAdd Nat.reduceEqDiff Nat.reduceBEq Nat.reduceBNe Nat.reduceLeDiff Nat.reduceLT reduceCtorEq Int.reduceLT Int.reduceLE Int.reduceBEq Int.reduceAdd Int.reduceSub Int.reduceToNat
attribute [go_sem↓] reduceIte
end Go.AI
namespace Go.AI
def dcr (s:List UInt8) (pos:Nat):Nat×Nat:=Utf8.decode ⟨s.toArray⟩ pos
def zQt:V→Option Blk| .d (.str s)=>some (.it s 0)|_=>none
theorem zCZ {s:List UInt8}:zQt (.d (.str s))=some (.it s 0):=rfl
def zyK (b:Nat) (h:Heap) (s:List UInt8) (pos:Nat):Option (V×Heap):=
 if pos<s.length then some (.d (.tuple [.bool true,.int .i64 pos,.int .i32 (dcr s pos).1]),h.put b (.it s (pos+(dcr s pos).2)))else some (.d (.tuple [.bool false]),h)
def zDa (b:Nat) (h:Heap):Option Blk→Option (V×Heap)|some (.it s pos)=>zyK b h s pos|_=>none
theorem zuZ {b:Nat} {h:Heap} {s:List UInt8} {pos:Nat}:zDa b h (some (.it s pos))=zyK b h s pos:=rfl
def zGJ (h:Heap):V→Option (V×Heap)| .it b=>zDa b h (h.get b)|_=>none
theorem zDb {h:Heap} {b:Nat}:zGJ h (.it b)=zDa b h (h.get b):=rfl
section
variable {app:App} {sh:FuncId→Bool} {fr:Nat} {env:Regs} {r:Regs} {h:Heap}
theorem zDc {x:Opd}:zad app sh fr env r h (.rangeS x)=zEX fr h (.it fr) (zQt (opd env r x)):=by
 simp only[zad]
 cases opd env r x with
 |d y=>cases y<;>rfl
 |_=>rfl
theorem zGK {x:Opd}:zad app sh fr env r h (.nextS x)=zGJ h (opd env r x):=by
 simp only[zad]
 cases hx:opd env r x with
 |it b=>
  simp only[zGJ]
  cases hb:h.get b with
  |none=>rfl
  |some y=>cases y with
   |it s pos=>simp only[zDa,zyK,dcr]
   |_=>rfl
 |_=>rfl
end
theorem VR.it'' {f:Nat→Nat} {b c:Nat} (h:f b=c):VR f (.it b) (.it c):=by subst h;exact .it ..
theorem zaI.it {n:Fx} {b:Nat} (h:n.has b):zaI n (.it b):=fun _ hf=> .it'' (hf b h)
theorem zar.it {f:Nat→Nat} {s:List UInt8} {p:Nat}:zar f (some (.it s p)) (some (.it s p)):=BR.it s p
theorem zDd {b:Nat}:boxed (.it b)=some (.els 1 [.it b] 0):=rfl
theorem zKk {b:Nat}:V.sub (.it b) 0 none=some (.it b):=rfl
theorem zyL {k k':IntKind} {n:Int}:convV (.int k) (.d (.int k' n))=some (.d (.int k (k.wrap n))):=rfl
theorem zva {s:List UInt8}:convV .same (.d (.str s))=some (.d (.str s)):=rfl
def zOg (n:Int):List UInt8:=(Utf8.encode n).data.toList
theorem zvb {k:IntKind} {n:Int}:convV .rune (.d (.int k n))=some (.d (.str (zOg n))):=rfl
theorem zyM {a b:List UInt8}:zkd .lss a b=some (.bool (bytesLess a b)):=rfl
theorem zyN {a b:List UInt8}:zkd .leq a b=some (.bool (bytesLess a b||a==b)):=rfl
theorem zyO {a b:List UInt8}:zkd .gtr a b=some (.bool !(bytesLess a b||a==b)):=rfl
theorem zyP {a b:List UInt8}:zkd .geq a b=some (.bool !(bytesLess a b)):=rfl
section
variable {A:AProg} {g:Rg} {rest:List (SOp×Option (Nat×Bool))} {i fr sz bytes:Nat} {env:Regs} {H:Heap}
end
theorem zDe {sz:Nat} {z v0 v1:V} (h0:v0.cells.length=sz) (h1:v1.cells.length=sz):zaS sz (List.replicate 2 z) [(0,v0),(1,v1)]=some [v0,v1]:=by
 simp[zaS,List.replicate,h0,h1]
theorem zDf {sz:Nat} {z v0 v1 v2:V} (h0:v0.cells.length=sz) (h1:v1.cells.length=sz) (h2:v2.cells.length=sz):zaS sz (List.replicate 3 z) [(0,v0),(1,v1),(2,v2)]=some [v0,v1,v2]:=by
 simp[zaS,List.replicate,h0,h1,h2]
theorem zDg {sz:Nat} {z v0 v1 v2 v3:V} (h0:v0.cells.length=sz) (h1:v1.cells.length=sz) (h2:v2.cells.length=sz) (h3:v3.cells.length=sz):zaS sz (List.replicate 4 z) [(0,v0),(1,v1),(2,v2),(3,v3)]=some [v0,v1,v2,v3]:=by
 simp[zaS,List.replicate,h0,h1,h2,h3]
theorem zDh {sz:Nat} {z v0 v1 v2 v3 v4:V} (h0:v0.cells.length=sz) (h1:v1.cells.length=sz) (h2:v2.cells.length=sz) (h3:v3.cells.length=sz) (h4:v4.cells.length=sz):zaS sz (List.replicate 5 z) [(0,v0),(1,v1),(2,v2),(3,v3),(4,v4)]=some [v0,v1,v2,v3,v4]:=by
 simp[zaS,List.replicate,h0,h1,h2,h3,h4]
theorem zDi {sz:Nat} {z v0 v1 v2 v3 v4 v5:V} (h0:v0.cells.length=sz) (h1:v1.cells.length=sz) (h2:v2.cells.length=sz) (h3:v3.cells.length=sz) (h4:v4.cells.length=sz) (h5:v5.cells.length=sz):zaS sz (List.replicate 6 z) [(0,v0),(1,v1),(2,v2),(3,v3),(4,v4),(5,v5)]=some [v0,v1,v2,v3,v4,v5]:=by
 simp[zaS,List.replicate,h0,h1,h2,h3,h4,h5]
theorem zDj {sz:Nat} {z v0 v1 v2 v3 v4 v5 v6:V} (h0:v0.cells.length=sz) (h1:v1.cells.length=sz) (h2:v2.cells.length=sz) (h3:v3.cells.length=sz) (h4:v4.cells.length=sz) (h5:v5.cells.length=sz) (h6:v6.cells.length=sz):zaS sz (List.replicate 7 z) [(0,v0),(1,v1),(2,v2),(3,v3),(4,v4),(5,v5),(6,v6)]=some [v0,v1,v2,v3,v4,v5,v6]:=by
 simp[zaS,List.replicate,h0,h1,h2,h3,h4,h5,h6]
theorem zDk {sz:Nat} {z v0 v1 v2 v3 v4 v5 v6 v7:V} (h0:v0.cells.length=sz) (h1:v1.cells.length=sz) (h2:v2.cells.length=sz) (h3:v3.cells.length=sz) (h4:v4.cells.length=sz) (h5:v5.cells.length=sz) (h6:v6.cells.length=sz) (h7:v7.cells.length=sz):zaS sz (List.replicate 8 z) [(0,v0),(1,v1),(2,v2),(3,v3),(4,v4),(5,v5),(6,v6),(7,v7)]=some [v0,v1,v2,v3,v4,v5,v6,v7]:=by
 simp[zaS,List.replicate,h0,h1,h2,h3,h4,h5,h6,h7]
theorem zDl {sz:Nat} {z v0 v1 v2 v3 v4 v5 v6 v7 v8:V} (h0:v0.cells.length=sz) (h1:v1.cells.length=sz) (h2:v2.cells.length=sz) (h3:v3.cells.length=sz) (h4:v4.cells.length=sz) (h5:v5.cells.length=sz) (h6:v6.cells.length=sz) (h7:v7.cells.length=sz) (h8:v8.cells.length=sz):zaS sz (List.replicate 9 z) [(0,v0),(1,v1),(2,v2),(3,v3),(4,v4),(5,v5),(6,v6),(7,v7),(8,v8)]=some [v0,v1,v2,v3,v4,v5,v6,v7,v8]:=by
 simp[zaS,List.replicate,h0,h1,h2,h3,h4,h5,h6,h7,h8]
theorem zyQ {sz:Nat} {z v0 v1 v2 v3 v4 v5 v6 v7 v8 v9:V} (h0:v0.cells.length=sz) (h1:v1.cells.length=sz) (h2:v2.cells.length=sz) (h3:v3.cells.length=sz) (h4:v4.cells.length=sz) (h5:v5.cells.length=sz) (h6:v6.cells.length=sz) (h7:v7.cells.length=sz) (h8:v8.cells.length=sz) (h9:v9.cells.length=sz):zaS sz (List.replicate 10 z) [(0,v0),(1,v1),(2,v2),(3,v3),(4,v4),(5,v5),(6,v6),(7,v7),(8,v8),(9,v9)]=some [v0,v1,v2,v3,v4,v5,v6,v7,v8,v9]:=by
 simp[zaS,List.replicate,h0,h1,h2,h3,h4,h5,h6,h7,h8,h9]
theorem zyR {sz:Nat} {z v0 v1 v2 v3 v4 v5 v6 v7 v8 v9 v10:V} (h0:v0.cells.length=sz) (h1:v1.cells.length=sz) (h2:v2.cells.length=sz) (h3:v3.cells.length=sz) (h4:v4.cells.length=sz) (h5:v5.cells.length=sz) (h6:v6.cells.length=sz) (h7:v7.cells.length=sz) (h8:v8.cells.length=sz) (h9:v9.cells.length=sz) (h10:v10.cells.length=sz):zaS sz (List.replicate 11 z) [(0,v0),(1,v1),(2,v2),(3,v3),(4,v4),(5,v5),(6,v6),(7,v7),(8,v8),(9,v9),(10,v10)]=some [v0,v1,v2,v3,v4,v5,v6,v7,v8,v9,v10]:=by
 simp[zaS,List.replicate,h0,h1,h2,h3,h4,h5,h6,h7,h8,h9,h10]
theorem zyS {sz:Nat} {z v0 v1 v2 v3 v4 v5 v6 v7 v8 v9 v10 v11:V} (h0:v0.cells.length=sz) (h1:v1.cells.length=sz) (h2:v2.cells.length=sz) (h3:v3.cells.length=sz) (h4:v4.cells.length=sz) (h5:v5.cells.length=sz) (h6:v6.cells.length=sz) (h7:v7.cells.length=sz) (h8:v8.cells.length=sz) (h9:v9.cells.length=sz) (h10:v10.cells.length=sz) (h11:v11.cells.length=sz):zaS sz (List.replicate 12 z) [(0,v0),(1,v1),(2,v2),(3,v3),(4,v4),(5,v5),(6,v6),(7,v7),(8,v8),(9,v9),(10,v10),(11,v11)]=some [v0,v1,v2,v3,v4,v5,v6,v7,v8,v9,v10,v11]:=by
 simp[zaS,List.replicate,h0,h1,h2,h3,h4,h5,h6,h7,h8,h9,h10,h11]
theorem zyT {sz:Nat} {z v0 v1 v2 v3 v4 v5 v6 v7 v8 v9 v10 v11 v12:V} (h0:v0.cells.length=sz) (h1:v1.cells.length=sz) (h2:v2.cells.length=sz) (h3:v3.cells.length=sz) (h4:v4.cells.length=sz) (h5:v5.cells.length=sz) (h6:v6.cells.length=sz) (h7:v7.cells.length=sz) (h8:v8.cells.length=sz) (h9:v9.cells.length=sz) (h10:v10.cells.length=sz) (h11:v11.cells.length=sz) (h12:v12.cells.length=sz):zaS sz (List.replicate 13 z) [(0,v0),(1,v1),(2,v2),(3,v3),(4,v4),(5,v5),(6,v6),(7,v7),(8,v8),(9,v9),(10,v10),(11,v11),(12,v12)]=some [v0,v1,v2,v3,v4,v5,v6,v7,v8,v9,v10,v11,v12]:=by
 simp[zaS,List.replicate,h0,h1,h2,h3,h4,h5,h6,h7,h8,h9,h10,h11,h12]
theorem zyU {sz:Nat} {z v0 v1 v2 v3 v4 v5 v6 v7 v8 v9 v10 v11 v12 v13:V} (h0:v0.cells.length=sz) (h1:v1.cells.length=sz) (h2:v2.cells.length=sz) (h3:v3.cells.length=sz) (h4:v4.cells.length=sz) (h5:v5.cells.length=sz) (h6:v6.cells.length=sz) (h7:v7.cells.length=sz) (h8:v8.cells.length=sz) (h9:v9.cells.length=sz) (h10:v10.cells.length=sz) (h11:v11.cells.length=sz) (h12:v12.cells.length=sz) (h13:v13.cells.length=sz):zaS sz (List.replicate 14 z) [(0,v0),(1,v1),(2,v2),(3,v3),(4,v4),(5,v5),(6,v6),(7,v7),(8,v8),(9,v9),(10,v10),(11,v11),(12,v12),(13,v13)]=some [v0,v1,v2,v3,v4,v5,v6,v7,v8,v9,v10,v11,v12,v13]:=by
 simp[zaS,List.replicate,h0,h1,h2,h3,h4,h5,h6,h7,h8,h9,h10,h11,h12,h13]
theorem zyV {sz:Nat} {z v0 v1 v2 v3 v4 v5 v6 v7 v8 v9 v10 v11 v12 v13 v14:V} (h0:v0.cells.length=sz) (h1:v1.cells.length=sz) (h2:v2.cells.length=sz) (h3:v3.cells.length=sz) (h4:v4.cells.length=sz) (h5:v5.cells.length=sz) (h6:v6.cells.length=sz) (h7:v7.cells.length=sz) (h8:v8.cells.length=sz) (h9:v9.cells.length=sz) (h10:v10.cells.length=sz) (h11:v11.cells.length=sz) (h12:v12.cells.length=sz) (h13:v13.cells.length=sz) (h14:v14.cells.length=sz):zaS sz (List.replicate 15 z) [(0,v0),(1,v1),(2,v2),(3,v3),(4,v4),(5,v5),(6,v6),(7,v7),(8,v8),(9,v9),(10,v10),(11,v11),(12,v12),(13,v13),(14,v14)]=some [v0,v1,v2,v3,v4,v5,v6,v7,v8,v9,v10,v11,v12,v13,v14]:=by
 simp[zaS,List.replicate,h0,h1,h2,h3,h4,h5,h6,h7,h8,h9,h10,h11,h12,h13,h14]
theorem zyW {sz:Nat} {z v0 v1 v2 v3 v4 v5 v6 v7 v8 v9 v10 v11 v12 v13 v14 v15:V} (h0:v0.cells.length=sz) (h1:v1.cells.length=sz) (h2:v2.cells.length=sz) (h3:v3.cells.length=sz) (h4:v4.cells.length=sz) (h5:v5.cells.length=sz) (h6:v6.cells.length=sz) (h7:v7.cells.length=sz) (h8:v8.cells.length=sz) (h9:v9.cells.length=sz) (h10:v10.cells.length=sz) (h11:v11.cells.length=sz) (h12:v12.cells.length=sz) (h13:v13.cells.length=sz) (h14:v14.cells.length=sz) (h15:v15.cells.length=sz):zaS sz (List.replicate 16 z) [(0,v0),(1,v1),(2,v2),(3,v3),(4,v4),(5,v5),(6,v6),(7,v7),(8,v8),(9,v9),(10,v10),(11,v11),(12,v12),(13,v13),(14,v14),(15,v15)]=some [v0,v1,v2,v3,v4,v5,v6,v7,v8,v9,v10,v11,v12,v13,v14,v15]:=by
 simp[zaS,List.replicate,h0,h1,h2,h3,h4,h5,h6,h7,h8,h9,h10,h11,h12,h13,h14,h15]
theorem zyX {sz:Nat} {z v0 v1 v2 v3 v4 v5 v6 v7 v8 v9 v10 v11 v12 v13 v14 v15 v16:V} (h0:v0.cells.length=sz) (h1:v1.cells.length=sz) (h2:v2.cells.length=sz) (h3:v3.cells.length=sz) (h4:v4.cells.length=sz) (h5:v5.cells.length=sz) (h6:v6.cells.length=sz) (h7:v7.cells.length=sz) (h8:v8.cells.length=sz) (h9:v9.cells.length=sz) (h10:v10.cells.length=sz) (h11:v11.cells.length=sz) (h12:v12.cells.length=sz) (h13:v13.cells.length=sz) (h14:v14.cells.length=sz) (h15:v15.cells.length=sz) (h16:v16.cells.length=sz):zaS sz (List.replicate 17 z) [(0,v0),(1,v1),(2,v2),(3,v3),(4,v4),(5,v5),(6,v6),(7,v7),(8,v8),(9,v9),(10,v10),(11,v11),(12,v12),(13,v13),(14,v14),(15,v15),(16,v16)]=some [v0,v1,v2,v3,v4,v5,v6,v7,v8,v9,v10,v11,v12,v13,v14,v15,v16]:=by
 simp[zaS,List.replicate,h0,h1,h2,h3,h4,h5,h6,h7,h8,h9,h10,h11,h12,h13,h14,h15,h16]
theorem zyY {sz:Nat} {z v0 v1 v2 v3 v4 v5 v6 v7 v8 v9 v10 v11 v12 v13 v14 v15 v16 v17:V} (h0:v0.cells.length=sz) (h1:v1.cells.length=sz) (h2:v2.cells.length=sz) (h3:v3.cells.length=sz) (h4:v4.cells.length=sz) (h5:v5.cells.length=sz) (h6:v6.cells.length=sz) (h7:v7.cells.length=sz) (h8:v8.cells.length=sz) (h9:v9.cells.length=sz) (h10:v10.cells.length=sz) (h11:v11.cells.length=sz) (h12:v12.cells.length=sz) (h13:v13.cells.length=sz) (h14:v14.cells.length=sz) (h15:v15.cells.length=sz) (h16:v16.cells.length=sz) (h17:v17.cells.length=sz):zaS sz (List.replicate 18 z) [(0,v0),(1,v1),(2,v2),(3,v3),(4,v4),(5,v5),(6,v6),(7,v7),(8,v8),(9,v9),(10,v10),(11,v11),(12,v12),(13,v13),(14,v14),(15,v15),(16,v16),(17,v17)]=some [v0,v1,v2,v3,v4,v5,v6,v7,v8,v9,v10,v11,v12,v13,v14,v15,v16,v17]:=by
 simp[zaS,List.replicate,h0,h1,h2,h3,h4,h5,h6,h7,h8,h9,h10,h11,h12,h13,h14,h15,h16,h17]
theorem zyZ {sz:Nat} {z v0 v1 v2 v3 v4 v5 v6 v7 v8 v9 v10 v11 v12 v13 v14 v15 v16 v17 v18:V} (h0:v0.cells.length=sz) (h1:v1.cells.length=sz) (h2:v2.cells.length=sz) (h3:v3.cells.length=sz) (h4:v4.cells.length=sz) (h5:v5.cells.length=sz) (h6:v6.cells.length=sz) (h7:v7.cells.length=sz) (h8:v8.cells.length=sz) (h9:v9.cells.length=sz) (h10:v10.cells.length=sz) (h11:v11.cells.length=sz) (h12:v12.cells.length=sz) (h13:v13.cells.length=sz) (h14:v14.cells.length=sz) (h15:v15.cells.length=sz) (h16:v16.cells.length=sz) (h17:v17.cells.length=sz) (h18:v18.cells.length=sz):zaS sz (List.replicate 19 z) [(0,v0),(1,v1),(2,v2),(3,v3),(4,v4),(5,v5),(6,v6),(7,v7),(8,v8),(9,v9),(10,v10),(11,v11),(12,v12),(13,v13),(14,v14),(15,v15),(16,v16),(17,v17),(18,v18)]=some [v0,v1,v2,v3,v4,v5,v6,v7,v8,v9,v10,v11,v12,v13,v14,v15,v16,v17,v18]:=by
 simp[zaS,List.replicate,h0,h1,h2,h3,h4,h5,h6,h7,h8,h9,h10,h11,h12,h13,h14,h15,h16,h17,h18]
theorem zza {sz:Nat} {z v0 v1 v2 v3 v4 v5 v6 v7 v8 v9 v10 v11 v12 v13 v14 v15 v16 v17 v18 v19:V} (h0:v0.cells.length=sz) (h1:v1.cells.length=sz) (h2:v2.cells.length=sz) (h3:v3.cells.length=sz) (h4:v4.cells.length=sz) (h5:v5.cells.length=sz) (h6:v6.cells.length=sz) (h7:v7.cells.length=sz) (h8:v8.cells.length=sz) (h9:v9.cells.length=sz) (h10:v10.cells.length=sz) (h11:v11.cells.length=sz) (h12:v12.cells.length=sz) (h13:v13.cells.length=sz) (h14:v14.cells.length=sz) (h15:v15.cells.length=sz) (h16:v16.cells.length=sz) (h17:v17.cells.length=sz) (h18:v18.cells.length=sz) (h19:v19.cells.length=sz):zaS sz (List.replicate 20 z) [(0,v0),(1,v1),(2,v2),(3,v3),(4,v4),(5,v5),(6,v6),(7,v7),(8,v8),(9,v9),(10,v10),(11,v11),(12,v12),(13,v13),(14,v14),(15,v15),(16,v16),(17,v17),(18,v18),(19,v19)]=some [v0,v1,v2,v3,v4,v5,v6,v7,v8,v9,v10,v11,v12,v13,v14,v15,v16,v17,v18,v19]:=by
 simp[zaS,List.replicate,h0,h1,h2,h3,h4,h5,h6,h7,h8,h9,h10,h11,h12,h13,h14,h15,h16,h17,h18,h19]
attribute [go_sem] zDe zDf zDg zDh zDi zDj zDk zDl zyQ zyR zyS zyT zyU zyV zyW zyX zyY zyZ zza
theorem zvc {i:Nat} {s:List UInt8}:indexV i (.d (.str s))=(s[i]?).map fun c=> .d (.int .u8 c.toNat):=rfl
attribute [go_sem] zvc
theorem zKl {f:FuncId}:V.upd (.d .nilf) 0 1 (.d (.fn f))=some (.d (.fn f)):=rfl
theorem zKm {f:FuncId} {a b:List V}:V.upd (.d .nilf) 0 1 (.clo f a b)=some (.clo f a b):=rfl
theorem zKn {f g:FuncId}:V.upd (.d (.fn g)) 0 1 (.d (.fn f))=some (.d (.fn f)):=rfl
theorem zDm:D.nilf.cells.length=1:=rfl
theorem zzb:(V.d .nilf).cells.length=1:=rfl
theorem zKo {f:FuncId}:(V.d (.fn f)).cells.length=1:=rfl
theorem zGL {f:FuncId} {a b:List V}:(V.clo f a b).cells.length=1:=rfl
attribute [go_sem] zKl zKm zKn zDm zzb zKo zGL
theorem zbM {α:Type} {c:Prop} [Decidable c] {x:Option α} {r:α} (h:(if c then x else none)=some r):c∧x=some r:=by
 split at h
 ·rename_i hc;exact⟨hc,h⟩
 ·cases h
theorem zOh {c:Bool}:(true==c)=c:=by cases c<;>rfl
theorem zKp {c:Bool}:(c==true)=c:=by cases c<;>rfl
attribute [go_sem] zOh zKp
theorem zDn {c x:Bool}:(bif c then x else x)=x:=by cases c<;>rfl
attribute [go_sem] zDn
section
variable {α β γ δ ε:Type} {e:α→D} {f:β→D} {g:γ→D} {k:δ→D} {m:ε→D}
instance injT2 [Inj e] [Inj f]:Inj (eT2 e f):=⟨fun x y h=>by
 obtain⟨x0,x1⟩:=x;obtain⟨y0,y1⟩:=y
 simp only[eT2,D.tuple.injEq,List.cons.injEq,and_true]at h
 rw[Inj.inj _ _ h.1,Inj.inj _ _ h.2]⟩
instance injT3 [Inj e] [Inj f] [Inj g]:Inj (eT3 e f g):=⟨fun x y h=>by
 obtain⟨x0,x1,x2⟩:=x;obtain⟨y0,y1,y2⟩:=y
 simp only[eT3,D.tuple.injEq,List.cons.injEq,and_true]at h
 rw[Inj.inj _ _ h.1,Inj.inj _ _ h.2.1,Inj.inj _ _ h.2.2]⟩
instance injT4 [Inj e] [Inj f] [Inj g] [Inj k]:Inj (eT4 e f g k):=⟨fun x y h=>by
 obtain⟨x0,x1,x2,x3⟩:=x;obtain⟨y0,y1,y2,y3⟩:=y
 simp only[eT4,D.tuple.injEq,List.cons.injEq,and_true]at h
 rw[Inj.inj _ _ h.1,Inj.inj _ _ h.2.1,Inj.inj _ _ h.2.2.1,Inj.inj _ _ h.2.2.2]⟩
instance injT5 [Inj e] [Inj f] [Inj g] [Inj k] [Inj m]:Inj (eT5 e f g k m):=⟨fun x y h=>by
 obtain⟨x0,x1,x2,x3,x4⟩:=x;obtain⟨y0,y1,y2,y3,y4⟩:=y
 simp only[eT5,D.tuple.injEq,List.cons.injEq,and_true]at h
 rw[Inj.inj _ _ h.1,Inj.inj _ _ h.2.1,Inj.inj _ _ h.2.2.1,Inj.inj _ _ h.2.2.2.1,Inj.inj _ _ h.2.2.2.2]⟩
end
def zQz (k:IntKind) (a b:Int):Int:=k.wrap ((BitVec.ofInt k.bits a&&&BitVec.ofInt k.bits b).toNat:Int)
def orI (k:IntKind) (a b:Int):Int:=k.wrap ((BitVec.ofInt k.bits a|||BitVec.ofInt k.bits b).toNat:Int)
theorem zzc {k:IntKind} {a b:Int}:zcH .and k a b=some (.int k (zQz k a b)):=Eq.trans rfl rfl
theorem zDo {k:IntKind} {a b:Int}:zcH .or k a b=some (.int k (orI k a b)):=Eq.trans rfl rfl
attribute [go_sem] zzc zDo
def rdA {α:Type} (l:List α) (n:Nat) (i:Int):Option α:=if 0≤i∧i.toNat<n then l[i.toNat]? else none
section
variable {α:Type} {l:List α} {n:Nat} {i:Int} {x:α}
theorem zrg (h:rdA l n i=some x):0≤i∧i.toNat<n∧l[i.toNat]? =some x:=by
 unfold rdA at h
 split at h
 ·rename_i hc;exact⟨hc.1,hc.2,h⟩
 ·cases h
theorem zbP (h:rdA l n i=some x):0≤i:=(zrg h).1
theorem zbo (h:rdA l n i=some x):decide (0≤i)=true:=decide_eq_true (zbP h)
theorem zbW (h:rdA l n i=some x):i.toNat<n:=(zrg h).2.1
theorem zrh (h:rdA l n i=some x):l[i.toNat]? =some x:=(zrg h).2.2
theorem zaX (h:rdA l n i=some x):i.toNat<l.length:=by
 rcases Nat.lt_or_ge i.toNat l.length with h1|h1
 ·exact h1
 ·have:=zrh h;rw[List.getElem?_eq_none h1]at this;cases this
theorem zbp (e:α→D) (h:rdA l n i=some x):(l.map fun z=>V.d (e z))[i.toNat]? =some (V.d (e x)):=by rw[List.getElem?_map,zrh h];rfl
theorem zgH (h:rdA l n i=some x):l≠[]:=by rintro rfl;have:=zrh h;simp at this
theorem zil {k:Nat} (h:k<l.length):k<(l.set k x).length:=by rw[List.length_set];exact h
theorem zim (e:α→D) {k:Nat} (h:k<l.length):((l.set k x).map fun z=>V.d (e z))[k]? =some (V.d (e x)):=by simp[h]
theorem zDp {e:α→D} {k:Nat}:(l.map fun z=>V.d (e z)).set k (V.d (e x))=(l.set k x).map fun z=>V.d (e z):=by rw[List.map_set]
theorem zDq {b:Nat} {f:α→V} (h:l≠[]):mb b (l.map f)= .sl b 0 l.length:=by
 cases l with
 |nil=>exact absurd rfl h
 |cons x l=>simp[mb]
theorem zsp {sz fz:Nat} {f:α→V} (h:l≠[]):mbB sz fz (l.map f)=some (.els sz (l.map f) fz):=by
 cases l with
 |nil=>exact absurd rfl h
 |cons x l=>rfl
end
theorem zzd {n:Nat} {k:IntKind} {a:Int}:List.replicate n (V.d (.int k a))=(List.replicate n a).map fun z=>V.d (.int k z):=by rw[List.map_replicate]
theorem zsq {n:Nat} {a:Bool}:List.replicate n (V.d (.bool a))=(List.replicate n a).map fun z=>V.d (.bool z):=by rw[List.map_replicate]
theorem zze {n:Nat} {a:List UInt8}:List.replicate n (V.d (.str a))=(List.replicate n a).map fun z=>V.d (.str z):=by rw[List.map_replicate]
theorem zDr {k:IntKind} {a:Int}:(D.int k a).cells.length=1:=rfl
theorem zzf {a:Bool}:(D.bool a).cells.length=1:=rfl
theorem zDs {a:List UInt8}:(D.str a).cells.length=1:=rfl
attribute [go_sem] Nat.zero_le zDp zDr zzf zDs List.length_set List.length_replicate
theorem Wp.peel {A:AProg} {a:C} {s:St} {Q:Ex→St→Prop} (h:Wp A a s (Ex.seq A (.loop a) Q)):Wp A (.loop a) s Q:=by
 refine Wp.loop_step (h.mono fun e t hq=> ?_)
 cases e<;>exact hq
attribute [go_sem] zDc zGK zCZ zuZ zDb zDd zKk zyL zva zvb zyM zyN zyO zyP
end Go.AI
namespace Go.AI
def zfq (n:Nat) (x:V):Prop:=∀(f g:Nat→Nat) v,(∀b,b<n→f b=g b)→VR f x v→VR g x v
theorem zfq.undef {n:Nat}:zfq n .undef:=fun _ _ v _ _=> .undef v
theorem zfq.d {n:Nat} {x:D}:zfq n (.d x):=fun f g v _ h=>by rw[h.d_inv];exact .d x
theorem zfq.ptr {n b i o:Nat} (hb:b<n):zfq n (.ptr b i o):=fun f g v e h=>by rw[h.ptr_inv,e b hb];exact .ptr ..
theorem zfq.sl {n b i o:Nat} (hb:b<n):zfq n (.sl b i o):=fun f g v e h=>by rw[h.sl_inv,e b hb];exact .sl ..
theorem zfq.map {n b:Nat} (hb:b<n):zfq n (.map b):=fun f g v e h=>by rw[h.map_inv,e b hb];exact .map ..
theorem zfq.it {n b:Nat} (hb:b<n):zfq n (.it b):=fun f g v e h=>by rw[h.it_inv,e b hb];exact .it ..
theorem zfq.yld {n b:Nat} (hb:b<n):zfq n (.yld b):=fun f g v e h=>by rw[h.yld_inv,e b hb];exact .yld ..
theorem zfq.mb {n b:Nat} {l:List V} (hb:b<n):zfq n (AI.mb b l):=by
 cases l with
 |nil=>exact .d
 |cons x r=>exact .sl hb
def zhj (n:Nat) (l:List V):Prop:=∀x∈l,zfq n x
theorem zhj.nil {n:Nat}:zhj n []:=fun x hx=>by cases hx
theorem zhj.cons {n:Nat} {x:V} {l:List V} (h:zfq n x) (t:zhj n l):zhj n (x::l):=fun y hy=>by
 rcases List.mem_cons.1 hy with rfl|hy
 ·exact h
 ·exact t y hy
theorem zhj.append {n:Nat} {l m:List V} (h:zhj n l) (k:zhj n m):zhj n (l++m):=fun x hx=>by
 rcases List.mem_append.1 hx with hx|hx
 ·exact h x hx
 ·exact k x hx
theorem zhj.map {n:Nat} {α:Type} {e:α→D} {l:List α}:zhj n (l.map fun z=>V.d (e z)):=fun x hx=>by
 obtain⟨z,_,rfl⟩:=List.mem_map.1 hx
 exact .d
theorem zhj.to {n:Nat} {l m:List V} {f g:Nat→Nat} (h:zhj n l) (e:∀b,b<n→f b=g b) (k:VRL f l m):VRL g l m:=⟨k.len,fun j x v hx hv=>h x (List.mem_of_getElem? hx) f g v e (k.get j x v hx hv)⟩
def zri (n:Nat) (x:Blk):Prop:=∀(f g:Nat→Nat) y,(∀b,b<n→f b=g b)→BR f x y→BR g x y
theorem zri.els {n z fz:Nat} {l:List V} (h:zhj n l):zri n (.els z l fz):=fun f g y e k=>by
 cases k with
 |els hz h2=>exact .els hz (h.to e h2)
theorem zri.it {n p:Nat} {s:List UInt8}:zri n (.it s p):=fun f g y e k=>by
 cases k with
 |it=>exact .it ..
theorem zri.loop {n:Nat} {L:LoopB} (h:∀t,zfq n (L.regs t)):zri n (.loop L):=fun f g y e k=>by
 cases k with
 |loop a b c d e1 f1 g1 h1=>exact .loop (fun t=>h t f g _ e (a t)) b c d e1 f1 g1 h1
def zAM (n:Nat) (r:Regs):Prop:=∀t,zfq n (r t)
theorem zAM.none {n:Nat}:zAM n Regs.none:=fun _=> .undef
theorem zAM.set {n t:Nat} {v:V} {r:Regs} (hv:zfq n v) (h:zAM n r):zAM n (r.set t v):=fun i=>by
 unfold Regs.set
 cases i==t with
 |true=>exact hv
 |false=>exact h i
def LocH (n:Nat) (h:Heap):Prop:=∀b x,h.get b=some x→b<n∧zri n x
theorem LocH.at {n m:Nat}:LocH n (Heap.at m):=fun b x h=>by rw[Heap.at_get]at h;cases h
theorem LocH.set {n b:Nat} {o:Option Blk} {h:Heap} (hb:b<n) (ho:∀x,o=some x→zri n x) (hh:LocH n h):LocH n (h.set b o):=fun c x hx=>by
 rw[Heap.set_at]at hx
 by_cases e:c=b
 ·rw[if_pos e]at hx;exact⟨e▸hb,ho x hx⟩
 ·rw[if_neg e]at hx;exact hh c x hx
theorem LocH.put {n b:Nat} {x:Blk} {h:Heap} (hb:b<n) (ho:zri n x) (hh:LocH n h):LocH n (h.put b x):= .set hb (fun y e=>by cases e;exact ho) hh
theorem zhj.get {n:Nat} {l m:List V} {f g:Nat→Nat} (h:zhj n l) (e:∀b,b<n→f b=g b) (k:∀(j:Nat) x v,l[j]? =some x→m[j]? =some v→VR f x v):∀(j:Nat) x v,l[j]? =some x→m[j]? =some v→VR g x v:=fun j x v hx hv=>h x (List.mem_of_getElem? hx) f g v e (k j x v hx hv)
theorem zfq.rp {n o:Nat} {x:D}:zfq n (.rp x o):=fun f g v e h=>by rw[h.rp_inv];exact .rp ..
theorem zfq.agg {n:Nat} {l:List V} (h:zhj n l):zfq n (.agg l):=fun f g v e k=>by
 cases k with
 |agg h1 h2=>exact .agg h1 (h.get e h2)
 |aggd h1 h2=>exact .aggd h1 (h.get e h2)
theorem zfq.tuple {n:Nat} {l:List V} (h:zhj n l):zfq n (.tuple l):=fun f g v e k=>by
 cases k with
 |tuple h1 h2=>exact .tuple h1 (h.get e h2)
 |tupled h1 h2=>exact .tupled h1 (h.get e h2)
theorem zfq.clo {n:Nat} {k:FuncId} {a b:List V} (h:zhj n a) (h':zhj n b):zfq n (.clo k a b):=fun f g v e k=>by
 cases k with
 |clo h1 h2 h3 h4=>exact .clo h1 (h.get e h2) h3 (h'.get e h4)
theorem zfq.ofCells {n:Nat} {l:List V} (h:zhj n l):zfq n (V.ofCells l):=by
 unfold V.ofCells
 cases allD l with
 |some ds=>exact .d
 |none=>exact .agg h
def zJh (n:Nat) (o:Option Blk):Prop:=∀x,o=some x→zri n x
theorem zJh.some {n:Nat} {x:Blk} (h:zri n x):zJh n (some x):=fun y e=>by cases e;exact h
theorem zJh.mb {n z fz:Nat} {α:Type} {e:α→D} {l:List α}:zJh n (mbB z fz (l.map fun x=>V.d (e x))):=by
 cases l with
 |nil=>intro x h;cases h
 |cons a l=>exact .some (.els .map)
theorem HR.below {E:Nat→Option Blk} {f:Nat→Nat} {h K:Heap} (H:HR E f h K) {c:Nat} (hc:c<h.next):f c<K.next:=by
 rcases Nat.lt_or_ge (f c) K.next with h1|h1
 ·exact h1
 ·have:=H.next (f c-K.next)
  rw[show K.next+(f c-K.next)=f c by omega]at this
  have:=H.inj _ _ this
  omega
theorem HR.again {E:Nat→Option Blk} {f:Nat→Nat} {h K:Heap} (H:HR E f h K) (hL:LocH h.next h) (m:Nat):∃g,(∀c,c<h.next→g c=f c)∧(∀c,h.next≤c→K.next+m≤g c)∧HR (K.bump m).get g h (K.bump m):=by
 refine⟨fun c=>if c<h.next then f c else c-h.next+(K.next+m),fun c hc=>if_pos hc,fun c hc=> ?_,fun b x hx=> ?_,fun i=> ?_,fun a b e=> ?_,fun _ _=>rfl⟩
 ·show K.next+m≤if c<h.next then _ else _
  rw[if_neg (by omega)];omega
 ·obtain⟨x',h1,h2⟩:=H.blk b x hx
  obtain⟨h3,h4⟩:=hL b x hx
  refine⟨x',?_,h4 f _ x' (fun c hc=>(if_pos hc).symm) h2⟩
  show K.get (if b<h.next then f b else _)=_
  rw[if_pos h3];exact h1
 ·show(if h.next+i<h.next then _ else _)=K.next+m+i
  rw[if_neg (by omega)];omega
 ·have e:(if a<h.next then f a else a-h.next+(K.next+m))=(if b<h.next then f b else b-h.next+(K.next+m)):=e
  by_cases ha:a<h.next
  ·have:=H.below ha
   rw[if_pos ha]at e
   by_cases hb:b<h.next
   ·rw[if_pos hb]at e;exact H.inj _ _ e
   ·rw[if_neg hb]at e;omega
  ·rw[if_neg ha]at e
   by_cases hb:b<h.next
   ·have:=H.below hb
    rw[if_pos hb]at e;omega
   ·rw[if_neg hb]at e;omega
end Go.AI
namespace Go.AI
def foldI {σ ρ α:Type} (step:σ→α→Option (σ⊕ρ)):σ→List α→Option (σ⊕ρ)
 |x,[]=>some (.inl x)
 |x,a::l=>(step x a).bind fun o=>match o with
  | .inl y=>foldI step y l
  | .inr r=>some (.inr r)
theorem zoS {σ ρ α:Type} {step:σ→α→Option (σ⊕ρ)}:∀{l:List α} {m:List α} {x:σ},foldI step x (l++m)=(foldI step x l).bind fun o=>match o with| .inl y=>foldI step y m| .inr r=>some (.inr r)
 |[],m,x=>rfl
 |a::l,m,x=>by
  simp only[List.cons_append,foldI]
  cases h:step x a with
  |none=>rfl
  |some o=>
   cases o with
   |inl y=>simp only[Option.bind_some];exact zoS
   |inr r=>rfl
theorem zvd {σ ρ α β:Type} {step:σ→α→Option (σ⊕ρ)} {g:β→List α} {b:β} {l:List β} {x:σ} {o:σ⊕ρ} (h:foldI step x ((b::l).flatMap g)=some o):(∃y,foldI step x (g b)=some (.inl y)∧foldI step y (l.flatMap g)=some o)∨∃r,foldI step x (g b)=some (.inr r)∧o= .inr r:=by
 rw[List.flatMap_cons,zoS]at h
 obtain⟨p,h1,h⟩:=Option.bind_eq_some_iff.1 h
 cases p with
 |inl y=>exact .inl ⟨y,h1,h⟩
 |inr r=>cases h;exact .inr ⟨r,h1,rfl⟩
def zOi (b:Nat) (R:Ex→Heap→Prop) (e:Ex) (h:Heap):Option Blk→Prop
 |some (.loop l)=>R e (h.put b (.loop {l with state:=if e.jmp.isNone=true then .ready else .done,pending:=e.jmp}))
 |_=>False
def zKq (b:Nat) (R:Ex→Heap→Prop) (e:Ex) (s:St):Prop:=zOi b R e s.h (s.h.get b)
theorem zsr {b:Nat} {R:Ex→Heap→Prop} {e:Ex} {s:St}:zKq b R e s=zOi b R e s.h (s.h.get b):=rfl
theorem zoT {b:Nat} {R:Ex→Heap→Prop} {e:Ex} {h:Heap} {l:LoopB}:zOi b R e h (some (.loop l))=R e (h.put b (.loop {l with state:=if e.jmp.isNone=true then .ready else .done,pending:=e.jmp})):=rfl
theorem zzg {A:AProg} {b:Nat} {args:List V} {H:Heap} {L:LoopB} {r1:Regs} {R:Ex→Heap→Prop} (hl:H.get b=some (.loop L)) (hr:zbh L.params args L.regs=some r1) (hb:Wp A L.assign {r:=r1,h:=H} (zGG A L.body (zKq b R) b)):∃e h',ans A (.yld b) args H=some (.d (.bool e.jmp.isNone),h')∧R e h':=by
 obtain⟨n1,e1,s1,h1,q1⟩:=hb
 cases e1 with
 |normal=>
  rw[zfC]at q1
  cases hg:s1.h.get b with
  |none=>rw[hg]at q1;exact q1.elim
  |some x=>
   rw[hg]at q1
   cases x with
   |loop L1=>
    obtain⟨hs,n2,e2,s2,h2,q2⟩:=q1
    rw[zsr]at q2
    cases hg2:s2.h.get b with
    |none=>rw[hg2]at q2;exact q2.elim
    |some y=>
     rw[hg2]at q2
     cases y with
     |loop L2=>
      rw[zoT]at q2
      refine⟨e2,_,zcQ.2 ⟨max n1 n2+1,?_⟩,q2⟩
      simp only[zeq,round,hl,hr,Option.bind_some]
      rw[zbu (zbS (Nat.le_max_left n1 n2)) (Nat.le_max_left n1 n2) h1]
      simp only[hg]
      rw[if_pos hs,zbu (zbS (Nat.le_max_right n1 n2)) (Nat.le_max_right n1 n2) h2]
      simp only[Option.bind_some,hg2]
      cases e2<;>rfl
     |_=>exact q2.elim
   |_=>exact q1.elim
 |exit id=>exact q1.elim
 |ret=>exact q1.elim
section
variable {σ ρ α:Type}
def SF (S:σ→Heap) (F:ρ→Heap):σ⊕ρ→Heap
 | .inl x=>S x
 | .inr r=>F r
def IPost (n:Fx) (S:σ→Heap) (F:ρ→Heap):σ⊕ρ→Ex→Heap→Prop
 | .inl x,e,h=>e.jmp.isNone=true∧Up n ⟨Regs.none,S x⟩ ⟨Regs.none,h⟩
 | .inr r,e,h=>e.jmp.isNone=false∧Up n ⟨Regs.none,F r⟩ ⟨Regs.none,h⟩
structure Yl (A : AProg) (n : Fx) (b : Nat) (e : α → D) (S : σ → Heap) (F : ρ → Heap) (step : σ → α → Option (σ ⊕ ρ)) : Prop where
  lt : n.has b
  locS : ∀ x, LocH (S x).next (S x)
  locF : ∀ r, LocH (F r).next (F r)
  ok : ∀ x a o, step x a = some o → ∃ k h', ans A (.yld b) [.d (e a)] (S x) = some (.d (.bool k.jmp.isNone), h') ∧ IPost n S F o k h'
theorem Yl.loc {A : AProg} {n : Fx} {b : Nat} {e : α → D} {S : σ → Heap} {F : ρ → Heap} {step : σ → α → Option (σ ⊕ ρ)} (Y : Yl A n b e S F step) : ∀ o, LocH (SF S F o).next (SF S F o)
  | .inl x => Y.locS x
  | .inr r => Y.locF r
structure Emb (n:Fx) (P:Nat→Prop) (h K:Heap):Prop where
 lt:∀c,P c→c<K.next
 ex:∃f:Nat→Nat,(∀c,n.has c→f c=c)∧HR K.get f h K∧∀c,P c→∀b,f b≠c
theorem Emb.mono {n:Fx} {P Q:Nat→Prop} {h K:Heap} (H:Emb n P h K) (hq:∀c,Q c→P c):Emb n Q h K:=
 ⟨fun c hc=>H.lt c (hq c hc),let⟨f,h1,h2,h3⟩:=H.ex;⟨f,h1,h2,fun c hc=>h3 c (hq c hc)⟩⟩
theorem HR.own {E:Nat→Option Blk} {f:Nat→Nat} {h K:Heap} (H:HR E f h K):HR K.get f h K:=⟨H.blk,H.next,H.inj,fun _ _=>rfl⟩
theorem Emb.grow {n:Fx} {P:Nat→Prop} {h K K1:Heap} (H:Emb n P h K) (hL:LocH h.next h) (hn:n.1≤h.next) (h1:K.next≤K1.next) (h2:∀c,c<K.next→K1.get c=K.get c):Emb n (fun c=>P c∨(K.next≤c∧c<K1.next)) h K1:=by
 obtain⟨f,hf,R,hP⟩:=H.ex
 obtain⟨g,g1,g2,G⟩:=R.again hL (K1.next-K.next)
 refine⟨fun c hc=> ?_,g,fun c hc=>by rw[g1 c (by have:=hc.1;omega)];exact hf c hc,⟨fun b x hx=> ?_,fun i=> ?_,G.inj,fun _ _=>rfl⟩,fun c hc b=> ?_⟩
 ·rcases hc with hc|hc
  ·have:=H.lt c hc;omega
  ·exact hc.2
 ·obtain⟨x',e1,e2⟩:=G.blk b x hx
  have hb:=(hL b x hx).1
  refine⟨x',?_,e2⟩
  have hlt:=R.below hb
  rw[g1 b hb]at e1⊢
  rw[h2 _ hlt];exact e1
 ·have:=G.next i
  rw[this]
  show K.next+(K1.next-K.next)+i=K1.next+i
  omega
 ·rcases Nat.lt_or_ge b h.next with hb|hb
  ·rw[g1 b hb]
   rcases hc with hc|hc
   ·exact hP c hc b
   ·have:=R.below hb;omega
  ·have h3:=g2 b hb
   rcases hc with hc|hc
   ·have:=H.lt c hc;omega
   ·omega
theorem Emb.bump {n:Fx} {P:Nat→Prop} {h K:Heap} (H:Emb n P h K) (hL:LocH h.next h) (hn:n.1≤h.next) (m:Nat):Emb n P h (K.bump m):=(H.grow (K1:=K.bump m) hL hn (Nat.le_add_right _ m) fun _ _=>rfl).mono fun _=> .inl
theorem Yl.call {A : AProg} (hA : A.Loc) {n : Fx} {b : Nat} {e : α → D} {S : σ → Heap} {F : ρ → Heap} {step : σ → α → Option (σ ⊕ ρ)} (Y : Yl A n b e S F step) {x : σ} {a : α} {o : σ ⊕ ρ} (hs : step x a = some o) {P : Nat → Prop} {K : Heap} (H : Emb n P (S x) K) :
    ∃ K', ans A (.yld b) [.d (e a)] K = some (.d (.bool o.isLeft), K') ∧ Emb n P (SF S F o) K' ∧ (∀ c, P c → K'.get c = K.get c) ∧ K.next ≤ K'.next := by
  obtain ⟨f, hf, R, hP⟩ := H.ex
  obtain ⟨k, h', e1, q⟩ := Y.ok x a o hs
  have hb : VR f (.yld b) (.yld b) := .yld' (hf b Y.lt)
  obtain ⟨v', K', e2, hv, R2⟩ := zyk hA _ _ _ _ _ _ _ _ e1 hb (VRL.cons (.d _) .nil) R
  have hv := hv.d_inv
  subst hv
  have hq : k.jmp.isNone = o.isLeft ∧ ∃ g, (∀ c, n.has c → g c = c) ∧ ∃ E, HR E g (SF S F o) h' := by
    cases o with
    | inl y => obtain ⟨q1, g, q2, E, q3⟩ := q; exact ⟨q1, g, q2, E, q3.h⟩
    | inr y => obtain ⟨q1, g, q2, E, q3⟩ := q; exact ⟨q1, g, q2, E, q3.h⟩
  obtain ⟨q1, g, q2, E, q3⟩ := hq
  rw [q1] at e2
  have hn := zrS e2
  refine ⟨K', e2, ⟨fun c hc => by have := H.lt c hc; omega, f ∘ g, fun c hc => by show f (g c) = c; rw [q2 c hc, hf c hc], q3.trans R2, fun c hc b => hP c hc (g b)⟩, fun c hc => R2.out c (hP c hc), hn⟩
structure Iter (A : AProg) (g : FuncId) (args : V → List V) (e : α → D) (l : List α) : Prop where
  go : ∀ {σ ρ : Type} {n : Fx} {b : Nat} {S : σ → Heap} {F : ρ → Heap} {step : σ → α → Option (σ ⊕ ρ)}, Yl A n b e S F step → (∀ x, n.1 ≤ (S x).next) → (∀ r, n.1 ≤ (F r).next) → ∀ {x : σ} {o : σ ⊕ ρ}, foldI step x l = some o → ∀ {P : Nat → Prop} {K : Heap}, Emb n P (S x) K →
    ∃ K', ans A (.d (.fn g)) (args (.yld b)) K = some (.d (.bool o.isLeft), K') ∧ Emb n P (SF S F o) K' ∧ (∀ c, P c → K'.get c = K.get c) ∧ K.next ≤ K'.next
theorem zzh {A : AProg} (hA : A.Loc) {n n' : Fx} {b : Nat} {g : Rg} {rest : List (SOp × Option (Nat × Bool))} {i : Nat} {env : Regs} {k : FuncId} {args : V → List V} {e : α → D} {l : List α} {S : σ → Heap} {F : ρ → Heap} {step : σ → α → Option (σ ⊕ ρ)} {x : σ} {o : σ ⊕ ρ} {H : Heap} {as : List V} (hI : Iter A k args e l) (hY : Yl A n b e S F step) (hx : ∀ x, n.1 ≤ (S x).next) (hr' : ∀ r, n.1 ≤ (F r).next) (hf : foldI step x l = some o) (hs : Up n ⟨Regs.none, S x⟩ ⟨Regs.none, H⟩)
    (hg : g.A = A) (hops : g.ops.zipIdx.all (zhu g.pairs) = true) (hrest : rest = g.ops.drop (i + 1)) (henv : zaN n env) (hr : zaN n g.r) (hb : Fx.spans n g.base g.ops.length = true) (hn : Fx.le n' n = true) (hQ : Clo n' g.Q)
    (ha : as = args (.yld b)) (k' : zfm g rest (i + 1) (env.set i (.d (.bool o.isLeft))) (SF S F o)) : zmq g rest i env (ans A (.d (.fn k)) as H) := by
  subst ha
  obtain ⟨f, hf1, E, R⟩ := hs
  obtain ⟨K', e1, M, -, -⟩ := hI.go hY hx hr' hf (P := fun _ => False) (K := H) ⟨fun _ h => h.elim, f, hf1, R.h.own, fun _ h => h.elim⟩
  obtain ⟨f', h1, h2, -⟩ := M.ex
  rw [e1]
  exact zjF hA hg hops hrest henv hr hb hn hQ h1 (.d _) h2 k'
theorem zGM {A : AProg} {n : Fx} {b : Nat} {e : α → D} {S : σ → Heap} {F : ρ → Heap} {step : σ → α → Option (σ ⊕ ρ)} (_ : Yl A n b e S F step) (hS : ∀ x, n.1 ≤ (S x).next) (hF : ∀ r, n.1 ≤ (F r).next) : ∀ o, n.1 ≤ (SF S F o).next
  | .inl x => hS x
  | .inr r => hF r
theorem zzi {S:σ→Heap} {F:ρ→Heap} {x:σ}:SF S F (.inl x)=S x:=rfl
theorem zzj {S:σ→Heap} {F:ρ→Heap} {r:ρ}:SF S F (.inr r)=F r:=rfl
theorem zin {x:σ}:(Sum.inl x:σ⊕ρ).isLeft=true:=rfl
theorem zio {r:ρ}:(Sum.inr r:σ⊕ρ).isLeft=false:=rfl
end
theorem VR.refl':∀v:V,VR id v v
 | .undef=> .undef _
 | .d x=> .d x
 | .ptr b i o=> .ptr b i o
 | .rp x o=> .rp x o
 | .sl b o n=> .sl b o n
 | .agg cs=> .agg rfl fun j x v h h'=>by
  have hm:=List.mem_of_getElem? h
  rw[h]at h';cases h'
  exact VR.refl' x
 | .tuple cs=> .tuple rfl fun j x v h h'=>by
  have hm:=List.mem_of_getElem? h
  rw[h]at h';cases h'
  exact VR.refl' x
 | .clo g a b=> .clo rfl (fun j x v h h'=>by
  have hm:=List.mem_of_getElem? h
  rw[h]at h';cases h'
  exact VR.refl' x) rfl (fun j x v h h'=>by
  have hm:=List.mem_of_getElem? h
  rw[h]at h';cases h'
  exact VR.refl' x)
 | .map b=> .map b
 | .it b=> .it b
 | .yld b=> .yld b
termination_by v=>SizeOf.sizeOf v
decreasing_by
 all_goals (have:=List.sizeOf_lt_of_mem hm;simp only[V.agg.sizeOf_spec,V.tuple.sizeOf_spec,V.clo.sizeOf_spec];omega)
theorem VRL.refl' (l:List V):VRL id l l:=⟨rfl,fun j x v h h'=>by rw[h]at h';cases h';exact VR.refl' x⟩
theorem zhj.self {n:Nat} {l:List V} (h:zhj n l) {f:Nat→Nat} (e:∀b,b<n→f b=b):VRL f l l:=h.to (f:=id) (fun b hb=>(e b hb).symm) (VRL.refl' l)
def zKr (n:Nat) (x:Blk):Prop:=∀f:Nat→Nat,(∀b,b<n→f b=b)→BR f x x
def ziq (n:Nat) (o:Option Blk):Prop:=∀x,o=some x→zKr n x
theorem ziq.els {n z fz:Nat} {l:List V} (h:zhj n l):ziq n (some (.els z l fz)):=fun x e=>by cases e;exact fun f hf=> .els (Nat.le_refl _) (h.self hf)
theorem ziq.mb {n z fz:Nat} {α:Type} {e:α→D} {l:List α}:ziq n (mbB z fz (l.map fun x=>V.d (e x))):=by
 cases l with
 |nil=>intro x h;cases h
 |cons a l=>exact .els .map
theorem ziq.it {n p:Nat} {s:List UInt8}:ziq n (some (.it s p)):=fun x e=>by cases e;exact fun f hf=> .it ..
theorem ziq.loop {n:Nat} {r:Regs} {ps:List Nat} {a b:C} {s:LSt} {j:Option Jump} (h:zAM n r) (la:a.loc=true) (lb:b.loc=true):ziq n (some (.loop ⟨r,ps,a,b,s,j⟩)):=fun x e=>by
 cases e
 exact fun f hf=> .loop (fun t=>h t id f _ (fun b hb=>(hf b hb).symm) (VR.refl' _)) rfl rfl rfl rfl rfl la lb
theorem ziq.map {n c:Nat} {K α:Type} [DecidableEq K] {e:K→D} {ev:α→D} {l:List (K×α)}:ziq n (some (.map (ents e (fun a=>V.d (ev a)) l 0) c)):=fun x h=>by cases h;exact fun f hf=>zar.map_d
def zef (n:Nat) (h:Heap):Prop:=∀b x,h.get b=some x→b<n∧zKr n x
theorem zef.at {n m:Nat}:zef n (Heap.at m):=fun b x h=>by rw[Heap.at_get]at h;cases h
theorem zef.empty {n:Nat}:zef n Heap.empty:=fun b x h=>by cases h
theorem zef.set {n b:Nat} {o:Option Blk} {h:Heap} (hb:b<n) (ho:ziq n o) (hh:zef n h):zef n (h.set b o):=fun c x hx=>by
 rw[Heap.set_at]at hx
 by_cases e:c=b
 ·rw[if_pos e]at hx;exact⟨e▸hb,ho x hx⟩
 ·rw[if_neg e]at hx;exact hh c x hx
theorem zef.put {n b:Nat} {x:Blk} {h:Heap} (hb:b<n) (ho:ziq n (some x)) (hh:zef n h):zef n (h.put b x):=fun c y hy=>by
 rw[Heap.put_at]at hy
 by_cases e:c=b
 ·rw[if_pos e]at hy;exact⟨e▸hb,ho y hy⟩
 ·rw[if_neg e]at hy;exact hh c y hy
theorem zef.bump {n m:Nat} {h:Heap} (hh:zef n h):zef n (h.bump m):=hh
theorem zef.del {n b:Nat} {h:Heap} (hh:zef n h):zef n (h.del b):=fun c x hx=>by
 have hx:(h.set b none).get c=some x:=hx
 rw[Heap.set_at]at hx
 by_cases e:c=b
 ·rw[if_pos e]at hx;cases hx
 ·rw[if_neg e]at hx;exact hh c x hx
theorem zef.freeze {n b m:Nat} {h:Heap} (hh:zef n h):zef n (AI.freeze h b m):=fun c x hx=>by
 unfold AI.freeze at hx
 cases hb:h.get b with
 |none=>rw[hb]at hx;exact hh c x hx
 |some y=>
  rw[hb]at hx
  cases y with
  |els z l fz=>
   dsimp only at hx
   split at hx
   ·exact hh c x hx
   ·rw[Heap.put_at]at hx
    by_cases e:c=b
    ·rw[if_pos e]at hx
     cases hx
     refine⟨e▸(hh b _ hb).1,fun f hf=> ?_⟩
     have:=(hh b _ hb).2 f hf
     cases this with
     |els hz h2=>exact .els (Nat.le_refl _) h2
    ·rw[if_neg e]at hx;exact hh c x hx
  |_=>exact hh c x hx
def zKs (H K:Heap):Prop:=(∀c,c<H.next→K.get c=H.get c)∧H.next≤K.next
theorem zzk {A:AProg} (hA:A.Loc) {n n':Fx} {g:Rg} {rest:List (SOp×Option (Nat×Bool))} {i N:Nat} {env:Regs} {x:Option (V×Heap)} {v:V} {H:Heap} (hx:∃K,x=some (v,K)∧zKs H K) (hH:zef N H) (hN:H.next=N) (hn1:n.1≤N) (hv:zaI n v)
 (hg:g.A=A) (hops:g.ops.zipIdx.all (zhu g.pairs)=true) (hrest:rest=g.ops.drop (i+1)) (henv:zaN n env) (hr:zaN n g.r) (hb:Fx.spans n g.base g.ops.length=true) (hn:Fx.le n' n=true) (hQ:Clo n' g.Q)
 (k:zfm g rest (i+1) (env.set i v) H):zmq g rest i env x:=by
 obtain⟨K,rfl,h1,h2⟩:=hx
 subst hN
 have hf:∀b,b<H.next→(fun c=>if c<H.next then c else c-H.next+K.next) b=b:=fun b hb=>if_pos hb
 refine zjF hA hg hops hrest henv hr hb hn hQ (f:=fun c=>if c<H.next then c else c-H.next+K.next) (fun b hb=>hf b (by have:=hb.1;omega)) (hv _ fun b hb=>hf b (by have:=hb.1;omega)) (E:=K.get) ⟨fun b y hy=> ?_,fun j=> ?_,fun a b e=> ?_,fun _ _=>rfl⟩ k
 ·obtain⟨h3,h4⟩:=hH b y hy
  refine⟨y,?_,h4 _ hf⟩
  show K.get (if b<H.next then b else _)=_
  rw[if_pos h3,h1 b h3,hy]
 ·show(if H.next+j<H.next then _ else _)=_
  rw[if_neg (by omega)];omega
 ·have e:(if a<H.next then a else a-H.next+K.next)=(if b<H.next then b else b-H.next+K.next):=e
  split at e<;>split at e<;>omega
def D.unit1:D→Bool
 | .list .. | .agg _| .tuple _=>false
 |_=>true
theorem zDt {h h':Heap} {v:V} {y:D} (hy:y.unit1=true) (e:res 8 h v=some (y,h')):v= .d y:=by
 cases v with
 |d x=>simp only[res,Option.some.injEq,Prod.mk.injEq]at e;rw[e.1]
 |sl c off len=>
  simp only[res]at e
  split at e
  ·split at e
   ·obtain⟨⟨ds,h2⟩,_,e2⟩:=Option.map_eq_some_iff.1 e
    simp only[Prod.mk.injEq]at e2;rw[←e2.1]at hy;cases hy
   ·cases e
  ·cases e
 |agg cs=>
  simp only[res]at e;obtain⟨⟨ds,h2⟩,_,e2⟩:=Option.map_eq_some_iff.1 e
  simp only[Prod.mk.injEq]at e2;rw[←e2.1]at hy;cases hy
 |tuple cs=>
  simp only[res]at e;obtain⟨⟨ds,h2⟩,_,e2⟩:=Option.map_eq_some_iff.1 e
  simp only[Prod.mk.injEq]at e2;rw[←e2.1]at hy;cases hy
 |_=>simp[res]at e
theorem zDu {A:AProg} (hA:A.Loc) {f:FuncId} {ds:List D} {y:D} (hy:y.unit1=true) (h:pc A f ds=some y) (H:Heap):∃K,ans A (.d (.fn f)) (ds.map V.d) H=some (.d y,K)∧zKs H K:=by
 unfold pc at h
 obtain⟨⟨v,h1⟩,e1,h2⟩:=Option.bind_eq_some_iff.1 h
 obtain⟨⟨y',h3⟩,e2,rfl⟩:=Option.map_eq_some_iff.1 h2
 have hv:v= .d y':=zDt hy e2
 subst hv
 obtain⟨v',K,e3,hv',R⟩:=zyk hA (E:=H.get) (f:=fun c=>H.next+c) _ _ _ _ _ H _ _ e1 (.d _) (VRL.dd ds) ⟨fun b x hx=>(by cases hx),fun i=>by show H.next+(0+i)=H.next+i;omega,fun a b e=>by have e:H.next+a=H.next+b:=e;omega,fun _ _=>rfl⟩
 rw[hv'.d_inv]at e3
 exact⟨K,e3,fun c hc=>R.out c fun b e=>by have e:H.next+b=c:=e;omega,zrS e3⟩
attribute [go_sem] zsr zoT zzi zzj zin zio
end Go.AI
