/- Shaken copy of a longer text: what one law needs. Its conditions: none. -/
import Derived.Test.YtfleilibjdgcjaaYVDec0
import Derived.Test.YtfleilibjdgcjaaYVSpLoops
set_option linter.unusedSimpArgs false
set_option linter.unusedVariables false
set_option linter.unusedSimpArgs false
set_option linter.unusedVariables false
set_option linter.unusedSectionVars false
set_option linter.unnecessarySimpa false
namespace Go.Proofs.Ytfleilibjdgcjaa.V
open Go.AI
abbrev encI (l:List Int):List V:=l.map fun z=>V.d (D.int .i64 z)
def zLY (K:Heap) (lo:Nat) (v:V) (l:List Int):Prop:=(v= .d (.list true [])∧l=[])∨∃c,v= .sl c 0 l.length∧K.get c=some (.els 1 (encI l) 0)∧lo≤c∧c<K.next
theorem zxE (l:List Int) (n:Bool) (hn:n=true→l=[]) (hl:l.length≤2^40) (H:Heap):∃v K,ans prog (.d (.fn 238)) [.d (.list n (l.map (D.int .i64)))] H=some (v,K)∧(zec H K∧zLY K H.next v l):=by
 have hroom:AI.roomBytes=2^46:=rfl
 refine zkt rfl rfl ?_
 delta zJO
 simp only[go_sem]
 cases n with
 |true=>
  simp only[go_sem]
  exact⟨⟨fun _ _=>rfl,by show H.next≤_;simp only[go_sem];omega⟩,.inl ⟨rfl,hn rfl⟩⟩
 |false=>
  simp only[go_sem]
  have hb:((((H.bump 1).bump 2).bump 4).put (H.next+3) (Blk.els 1 [] 0)).get (H.next+3)=some (.els 1 [] 0):=Heap.put_eq ..
  have kp:∀c,c<H.next→((((H.bump 1).bump 2).bump 4).put (H.next+3) (Blk.els 1 [] 0)).get c=H.get c:=fun c hc=>by rw[Heap.put_ne _ _ (by omega)];rfl
  by_cases h0:l=[]
  ·subst h0
   refine zjH rfl rfl ?_
   simp only[go_sem]
   exact⟨⟨kp,by show H.next≤H.next+1+2+4;omega⟩,.inr ⟨H.next+3,rfl,hb,by omega,by show H.next+3<H.next+1+2+4;omega⟩⟩
  ·refine zeH (v:= .sl (H.next+5) 0 l.length) (h:=((((((H.bump 1).bump 2).bump 4).put (H.next+3) (Blk.els 1 [] 0)).del (H.next+3)).put (H.next+5) (.els 1 (encI l) 0))) ?_ ?_
   ·rw[zjA,zbM,zpd (by simpa using h0) (zhs (e:=D.int .i64) (fun _=>rfl) (fun _=>rfl) l),zlA,hb,zjB (l:=[]) (len:=0) rfl (by rw[hroom];simp;omega)]
    simp only[List.length_map,Nat.zero_add,List.nil_append,List.map_map]
    rfl
   ·simp only[go_sem]
    refine⟨⟨fun c hc=> ?_,by show H.next≤H.next+1+2+4;omega⟩,.inr ⟨H.next+5,rfl,Heap.put_eq ..,by omega,by show H.next+5<H.next+1+2+4;omega⟩⟩
    rw[Heap.put_ne _ _ (by omega)]
    show(Heap.set _ (H.next+3) none).get c=_
    rw[Heap.set_at,if_neg (by omega)]
    exact kp c hc
def zHy (lo:Nat) (G:Nat→Option Blk) (fv:V) (p:Int→Bool) (l:List Int):Prop:=∀x∈l,∀K,lo≤K.next→(∀c,c<lo→K.get c=G c)→∃K',ans prog fv [.d (.int .i64 x)] K=some (.d (.bool (p x)),K')∧zec K K'
theorem ztg {lo:Nat} {G:Nat→Option Blk} {fv:V} {p:Int→Bool} {l:List Int} (hl:l.length≤2^40) (hp:zHy lo G fv p l) {c0:Nat} {Q:Ex→St→Prop} {H0:Heap} (hlo:lo≤H0.next) (h0:∀c,c<lo→H0.get c=G c) (hc:H0.get c0=some (.els 1 (encI l) 0)) (hc0:c0<H0.next)
 (hQ1:∀r K i,i<l.length→r 4= .d (.int .i64 (i:Int))→zec H0 K→(∀j,j<i→∀hj:j<l.length,p l[j]=false)→(∀hi:i<l.length,p l[i]=true)→Q .ret ⟨r,K⟩)
 (hQ2:∀r K,zec H0 K→(∀x∈l,p x=false)→Q (.exit 0) ⟨r,K⟩):
 ∀m k,k+m=l.length→(∀j,j<k→∀hj:j<l.length,p l[j]=false)→∀(K:Heap) (r:Regs),zec H0 K→r 0= .sl c0 0 l.length→r 1=fv→r 7= .d (.int .i64 (l.length:Int))→r 8= .d (.int .i64 (k:Int))→Wp prog (.loop zfV) ⟨r,K⟩ Q:=by
 intro m
 induction m with
 |zero=>
  intro k hk hn K r hK r0 r1 r7 r8
  obtain rfl:k=l.length:=by omega
  refine Wp.peel ?_
  obtain⟨Q1,hQ⟩:∃Q1,Q1=Ex.seq prog (.loop zfV) Q:=⟨_,rfl⟩
  rw[←hQ]
  delta zfV
  simp only[go_sem,r7,r8]
  rw[show decide ((l.length:Int)<(l.length:Int))=false by simp]
  simp only[go_sem]
  rw[hQ]
  refine hQ2 _ _ ⟨hK.1,Nat.le_trans hK.2 (Nat.le_add_right _ _)⟩ fun x hx=> ?_
  obtain⟨j,hj,rfl⟩:=List.getElem_of_mem hx
  exact hn j hj hj
 |succ m ihm=>
  intro k hk hn K r hK r0 r1 r7 r8
  have hlt:k<l.length:=by omega
  have hw:=zaJ (show k<2^62 by omega)
  have hg:K.get c0=some (.els 1 (encI l) 0):=(hK.1 c0 hc0).trans hc
  have hel:(encI l)[k]? =some (V.d (D.int .i64 l[k])):=by simp[hlt]
  refine Wp.peel ?_
  obtain⟨Q1,hQ⟩:∃Q1,Q1=Ex.seq prog (.loop zfV) Q:=⟨_,rfl⟩
  rw[←hQ]
  delta zfV
  simp only[go_sem,r7,r8]
  rw[show decide ((k:Int)<(l.length:Int))=true from decide_eq_true (by omega)]
  simp only[go_sem,r0,r1,r8,hg,hel]
  have hlt':k<(encI l).length:=by simpa using hlt
  simp only[go_sem,if_pos hlt,hg,hel]
  have hK2:zec H0 (((K.bump 1).bump 2).bump 6):=⟨hK.1,by have:=hK.2;show H0.next≤K.next+1+2+6;omega⟩
  obtain⟨K',e1,k1,k2⟩:=hp l[k] (List.getElem_mem hlt) (((K.bump 1).bump 2).bump 6) (by have:=hK2.2;omega) (fun c hc=>by rw[hK2.1 c (by omega)];exact h0 c hc)
  have hK3:zec H0 K':=⟨fun c hc=>by rw[k1 c (by have:=hK2.2;omega)];exact hK2.1 c hc,Nat.le_trans hK2.2 k2⟩
  refine zeH e1 ?_
  cases hpk:p l[k]with
  |true=>
   simp only[go_sem]
   rw[hQ]
   exact hQ1 _ _ k hlt (by simp only[go_sem]) ⟨hK3.1,by have:=hK3.2;show H0.next≤_;simp only[go_sem];omega⟩ hn fun _=>hpk
  |false=>
   simp only[go_sem,r8,hw]
   rw[hQ]
   refine ihm (k+1) (by omega) (fun j hj hj'=> ?_) _ _ ⟨hK3.1,by have:=hK3.2;show H0.next≤_;simp only[go_sem];omega⟩ ?_ ?_ ?_ ?_
   ·by_cases e:j=k
    ·subst e;exact hpk
    ·exact hn j (by omega) hj'
   ·simp only[go_sem,r0]
   ·simp only[go_sem,r1]
   ·simp only[go_sem,r7]
   ·simp only[go_sem]
theorem zxF {lo:Nat} {G:Nat→Option Blk} {fv:V} {p:Int→Bool} {l:List Int} (hl:l.length≤2^40) (hp:zHy lo G fv p l) {c0:Nat} {H0:Heap} (hlo:lo≤H0.next) (h0:∀c,c<lo→H0.get c=G c) (hc:H0.get c0=some (.els 1 (encI l) 0)) (hc0:c0<H0.next):
 ∃v K,ans prog (.d (.fn 236)) [.sl c0 0 l.length,fv] H0=some (v,K)∧(zec H0 K∧((v= .d (.int .i64 (-1))∧∀x∈l,p x=false)∨∃i:Nat,v= .d (.int .i64 (i:Int))∧i<l.length∧(∀j,j<i→∀hj:j<l.length,p l[j]=false)∧∀hi:i<l.length,p l[i]=true)):=by
 refine zkt rfl rfl ?_
 delta zCO
 simp only[go_sem]
 refine ztg hl hp hlo h0 hc hc0 ?_ ?_ l.length 0 (by omega) (fun j hj=>absurd hj (Nat.not_lt_zero _)) _ _ ⟨fun _ _=>rfl,by show H0.next≤_;simp only[go_sem];omega⟩ ?_ ?_ ?_ ?_
 ·intro r K i hi r4 hK hn hy
  simp only[go_sem,r4]
  exact⟨hK,.inr ⟨i,rfl,hi,hn,hy⟩⟩
 ·intro r K hK hn
  simp only[go_sem]
  exact⟨⟨hK.1,by have:=hK.2;show H0.next≤_;simp only[go_sem];omega⟩,.inl hn⟩
 all_goals first|(simp only[go_sem];done)|(simp only[go_sem];rfl)
structure DfI (l:List Int) (p:Int→Bool) (M:List Int) (i j:Nat):Prop where
 len:M.length=l.length
 ij:i≤j
 jn:j≤l.length
 done:M.take i=(l.take j).filter fun x=> !p x
 rest:M.drop j=l.drop j
theorem DfI.skip {l M:List Int} {p:Int→Bool} {i j:Nat} (I:DfI l p M i j) (hj:j<l.length) (h:p l[j]=true):DfI l p M i (j+1):=by
 refine⟨I.len,by have:=I.ij;omega,hj,?_,?_⟩
 ·rw[I.done,List.take_succ_eq_append_getElem hj,List.filter_append];simp[h]
 ·rw[←List.drop_drop,I.rest,List.drop_drop]
theorem DfI.keep {l M:List Int} {p:Int→Bool} {i j:Nat} (I:DfI l p M i j) (hj:j<l.length) (h:p l[j]=false):DfI l p (M.set i l[j]) (i+1) (j+1):=by
 have h1:=I.ij
 have h2:=I.len
 refine⟨by rw[List.length_set];exact h2,by omega,hj,?_,?_⟩
 ·rw[List.take_succ_eq_append_getElem (by rw[List.length_set];omega),List.take_set_of_le (Nat.le_refl _),I.done,List.take_succ_eq_append_getElem hj,List.filter_append]
  simp[h]
 ·rw[List.drop_set_of_lt (by omega),←List.drop_drop,I.rest,List.drop_drop]
theorem zEk {lo:Nat} {G:Nat→Option Blk} {fv:V} {p:Int→Bool} {l:List Int} (hl:l.length≤2^40) (hp:zHy lo G fv p l) {c0:Nat} {Q:Ex→St→Prop} {N0:Nat} (hlo:lo≤N0) (hc0:lo≤c0) (hc1:c0<N0)
 (hQ:∀r K M i,DfI l p M i l.length→r 0= .sl c0 0 l.length→r 5= .d (.int .i64 (i:Int))→N0≤K.next→(∀c,c<lo→K.get c=G c)→K.get c0=some (.els 1 (encI M) 0)→Q (.exit 0) ⟨r,K⟩):
 ∀m j,j+m=l.length→∀(M:List Int) (i:Nat) (K:Heap) (r:Regs),DfI l p M i j→N0≤K.next→(∀c,c<lo→K.get c=G c)→K.get c0=some (.els 1 (encI M) 0)→r 0= .sl c0 0 l.length→r 1=fv→r 5= .d (.int .i64 (i:Int))→r 6= .d (.int .i64 (j:Int))→Wp prog (.loop zkM) ⟨r,K⟩ Q:=by
 intro m
 induction m with
 |zero=>
  intro j hj M i K r I hN hG hM r0 r1 r5 r6
  obtain rfl:j=l.length:=by omega
  refine Wp.peel ?_
  obtain⟨Q1,hQ1⟩:∃Q1,Q1=Ex.seq prog (.loop zkM) Q:=⟨_,rfl⟩
  rw[←hQ1]
  delta zkM
  simp only[go_sem,r0,r6]
  rw[show decide ((l.length:Int)<(l.length:Int))=false by simp]
  simp only[go_sem]
  rw[hQ1]
  exact hQ _ _ M i I (by simp only[go_sem,r0]) (by simp only[go_sem,r5]) (by show N0≤_;simp only[go_sem];omega) hG hM
 |succ m ihm=>
  intro j hj M i K r I hN hG hM r0 r1 r5 r6
  have hlt:j<l.length:=by omega
  have hML:=I.len
  have hij:=I.ij
  have hw:=zaJ (show j<2^62 by omega)
  have hwi:=zaJ (show i<2^62 by omega)
  have hlt':j<(encI M).length:=by simp;omega
  have hMj:M[j]'(by omega)=l[j]:=by
   have h1:=List.getElem?_drop (xs:=M) (i:=j) (j:=0)
   have h2:=List.getElem?_drop (xs:=l) (i:=j) (j:=0)
   rw[I.rest]at h1
   rw[h1]at h2
   simp only[Nat.add_zero]at h2
   rw[List.getElem?_eq_getElem (by omega),List.getElem?_eq_getElem hlt]at h2
   exact Option.some.inj h2
  have hel:(encI M)[j]? =some (V.d (D.int .i64 l[j])):=by rw[List.getElem?_map,List.getElem?_eq_getElem (by omega),hMj];rfl
  refine Wp.peel ?_
  obtain⟨Q1,hQ1⟩:∃Q1,Q1=Ex.seq prog (.loop zkM) Q:=⟨_,rfl⟩
  rw[←hQ1]
  delta zkM
  simp only[go_sem,r0,r6]
  rw[show decide ((j:Int)<(l.length:Int))=true from decide_eq_true (by omega)]
  have hjM:j<M.length:=by omega
  have hiM:i<M.length:=by omega
  have hil:i<l.length:=by omega
  simp only[go_sem,r0,r1,r6,hM,if_pos hlt,if_pos hjM,hel]
  have hK2:(((K.bump 4).bump 5).bump 4).next=K.next+13:=rfl
  obtain⟨K',e1,k1,k2⟩:=hp l[j] (List.getElem_mem hlt) (((K.bump 4).bump 5).bump 4) (by omega) (fun c hc=>hG c hc)
  have hM2:K'.get c0=some (.els 1 (encI M) 0):=(k1 c0 (by omega)).trans hM
  have hG2:∀c,c<lo→K'.get c=G c:=fun c hc=>(k1 c (by omega)).trans (hG c hc)
  refine zeH e1 ?_
  cases hpk:p l[j]with
  |true=>
   simp only[go_sem,r6,hw]
   rw[hQ1]
   refine ihm (j+1) (by omega) M i _ _ (I.skip hlt hpk) (by show N0≤_;simp only[go_sem];omega) hG2 hM2 ?_ ?_ ?_ ?_
   ·simp only[go_sem,r0]
   ·simp only[go_sem,r1]
   ·simp only[go_sem,r5]
   ·simp only[go_sem]
  |false=>
   simp only[go_sem,r0,r5,hM2,if_pos hil,if_pos hiM]
   have heM:(encI M)[i]? =some (V.d (D.int .i64 M[i])):=by rw[List.getElem?_map,List.getElem?_eq_getElem hiM];rfl
   have hup:V.upd (V.d (D.int .i64 M[i])) 0 1 (V.d (D.int .i64 l[j]))=some (V.d (D.int .i64 l[j])):=rfl
   simp only[heM,Option.bind_some,hup,Option.map_some]
   simp only[go_sem,r5,r6,hw,hwi]
   rw[hQ1]
   refine ihm (j+1) (by omega) (M.set i l[j]) (i+1) _ _ (I.keep hlt hpk) (by show N0≤_;simp only[go_sem];omega) (fun c hc=> ?_) ?_ ?_ ?_ ?_ ?_
   ·show(Heap.put _ c0 _).get c=_
    rw[Heap.put_ne _ _ (by omega)];exact hG2 c hc
   ·show(Heap.put _ c0 _).get c0=_
    first|(rw[Heap.put_eq];done)|(rw[Heap.put_eq];simp[List.map_set])
   ·simp only[go_sem,r0]
   ·simp only[go_sem,r1]
   ·simp only[go_sem]
   ·simp only[go_sem]
def zHz (K:Heap) (v:V) (l:List Int):Prop:=(∃n,v= .d (.list n [])∧l=[])∨∃c M,v= .sl c 0 l.length∧K.get c=some (.els 1 (encI M) 0)∧M.take l.length=l∧l.length≤M.length
theorem zHA {lo:Nat} {G:Nat→Option Blk} {fv:V} {p:Int→Bool} {l:List Int} (hl:l.length≤2^40) (hp:zHy lo G fv p l) {v:V} {H0:Heap} (hlo:lo≤H0.next) (h0:∀c,c<lo→H0.get c=G c) (hv:zLY H0 lo v l):
 ∃w K,ans prog (.d (.fn 237)) [v,fv] H0=some (w,K)∧(H0.next≤K.next∧(∀c,c<lo→K.get c=H0.get c)∧zHz K w (l.filter fun x=> !p x)):=by
 refine zkt rfl rfl ?_
 delta zJN
 simp only[go_sem]
 rcases hv with⟨rfl,rfl⟩|⟨c0,rfl,hc,hc0,hc1⟩
 ·refine zgI (fn:=zCO) rfl rfl ?_
  delta zCO
  simp only[go_sem]
  refine Wp.peel ?_
  delta zfV
  simp only[go_sem]
  rw[show decide ((0:Int)<((0:Nat):Int))=false from rfl]
  simp only[go_sem]
  exact⟨by omega,fun _ _=>trivial,.inl ⟨true,rfl,rfl⟩⟩
 ·obtain⟨vi,K1,e1,hK,hi⟩:=zxF (H0:=(H0.bump 1).bump 4) hl hp (Nat.le_trans hlo (by show H0.next≤_;simp only[go_sem];omega)) h0 hc (by show c0<_;simp only[go_sem];omega)
  refine zeH e1 ?_
  have hn1:H0.next+5≤K1.next:=hK.2
  have hk1:∀c,c<H0.next→K1.get c=H0.get c:=fun c hcc=>hK.1 c (by show c<_;simp only[go_sem];omega)
  rcases hi with⟨rfl,hn⟩|⟨i,rfl,hi,hn,hy⟩
  ·simp only[go_sem]
   have hfl:l.filter (fun x=> !p x)=l:=List.filter_eq_self.2 fun x hx=>by rw[hn x hx];rfl
   rw[hfl]
   exact⟨by omega,fun c hc=>hk1 c (by omega),.inr ⟨c0,l,rfl,(hk1 c0 hc1).trans hc,List.take_length,Nat.le_refl _⟩⟩
  ·simp only[go_sem]
   have hwi:=zaJ (show i<2^62 by omega)
   rw[show((i:Int)== -1)=false by simp]
   simp only[go_sem,hwi]
   refine zEk (lo:=lo) (G:=G) (N0:=H0.next) hl hp hlo hc0 hc1 ?_ (l.length-(i+1)) (i+1) (by omega) l i _ _ ⟨rfl,by omega,hi,?_,rfl⟩ (by show H0.next≤_;simp only[go_sem];omega) (fun c hcc=>(hk1 c (by omega)).trans (h0 c hcc)) ((hk1 c0 hc1).trans hc) ?_ ?_ ?_ ?_
   ·intro r K M i' I r0 r5 hN hG hM
    have hML:=I.len
    have hij:=I.ij
    have hdone:=I.done
    rw[List.take_length]at hdone
    have hlen:(l.filter fun x=> !p x).length=i':=by rw[←hdone,List.length_take];omega
    have hM':∀m,(K.bump m).get c0=some (.els 1 (encI M) 0):=fun _=>hM
    have fin:∀K2:Heap,K.next≤K2.next→(∀c,c<lo→K2.get c=K.get c)→∀M2:List Int,K2.get c0=some (.els 1 (encI M2) 0)→M2.take i'=M.take i'→M2.length=M.length→∀w,(if i'=0 then w= .d (.list false [])else w= .sl c0 0 i')→H0.next≤K2.next∧(∀c,c<lo→K2.get c=H0.get c)∧zHz K2 w (l.filter fun x=> !p x):=by
     intro K2 n1 n2 M2 n3 n4 n5 w n6
     refine⟨by omega,fun c hcc=>by rw[n2 c hcc,hG c hcc,h0 c hcc],?_⟩
     by_cases hz:i'=0
     ·rw[if_pos hz]at n6
      exact .inl ⟨false,n6,List.eq_nil_of_length_eq_zero (by omega)⟩
     ·rw[if_neg hz]at n6
      exact .inr ⟨c0,M2,by rw[hlen];exact n6,n3,by rw[hlen,n4,hdone],by omega⟩
    have last:∀K2:Heap,∀M2:List Int,K2.get c0=some (.els 1 (encI M2) 0)→M2.length=M.length→∀w,(if i'=0 then w=V.d (.list false [])else w= .sl c0 0 i')→zbk K2 1 (V.sl c0 0 l.length) none (some i') none=some w:=by
     intro K2 M2 m1 m2 w m3
     simp only[zbk,Option.getD_some,Option.getD_none]
     rw[if_pos ⟨by omega,by omega,by omega⟩,m1]
     dsimp only
     rw[if_pos ⟨rfl,by simp;omega⟩]
     by_cases hz:i'=0
     ·rw[if_pos hz]at m3⊢;rw[m3]
     ·rw[if_neg hz]at m3⊢;rw[m3];rfl
    obtain⟨w,hw⟩:∃w,(if i'=0 then w=V.d (.list false [])else w= .sl c0 0 i'):=by
     by_cases hz:i'=0
     ·exact⟨_,by rw[if_pos hz]⟩
     ·exact⟨_,by rw[if_neg hz]⟩
    simp only[go_sem,r0,r5]
    by_cases hz:i'=l.length
    ·have hs:zbk (K.bump 4) 1 (V.sl c0 0 l.length) (some i') none none=some (.d (.list false [])):=by
      simp only[zbk,Option.getD_some,Option.getD_none]
      rw[if_pos ⟨by omega,by omega,by omega⟩,hM' 4]
      dsimp only
      rw[if_pos ⟨rfl,by simp;omega⟩,if_pos (by omega)]
     simp only[go_sem,hs]
     refine zeH (v:= .undef) (h:=K.bump 4) (by simp only[zae,opd,go_sem]) ?_
     have hl2:=last ((K.bump 4).bump 4) M hM rfl w hw
     simp only[go_sem,r0,r5,hl2]
     have:=fin ((K.bump 4).bump 4) (by show K.next≤_;simp only[go_sem];omega) (fun _ _=>rfl) M hM rfl rfl w hw
     exact this
    ·have hs:zbk (K.bump 4) 1 (V.sl c0 0 l.length) (some i') none none=some (.sl c0 (0+i') (l.length-i')):=by
      simp only[zbk,Option.getD_some,Option.getD_none]
      rw[if_pos ⟨by omega,by omega,by omega⟩,hM' 4]
      dsimp only
      rw[if_pos ⟨rfl,by simp;omega⟩,if_neg (by omega)]
     simp only[go_sem,hs]
     have hsp:splice (encI M) i' (List.replicate (l.length-i') (V.d (.int .i64 0)))=encI (M.take i'++List.replicate (l.length-i') 0):=by
      unfold splice
      rw[List.length_replicate,List.drop_eq_nil_of_le (by simp;omega)]
      simp
     refine zeH (v:= .undef) (h:=(K.bump 4).put c0 (.els 1 (encI (M.take i'++List.replicate (l.length-i') 0)) 0)) ?_ ?_
     ·simp only[zae,opd,go_sem,hM]
      rw[if_pos (by omega),hsp]
     have hg2:(((K.bump 4).put c0 (.els 1 (encI (M.take i'++List.replicate (l.length-i') 0)) 0)).bump 4).get c0=some (.els 1 (encI (M.take i'++List.replicate (l.length-i') 0)) 0):=Heap.put_eq ..
     have hlM:(M.take i'++List.replicate (l.length-i') 0).length=M.length:=by simp;omega
     have hl2:=last _ _ hg2 hlM w hw
     simp only[go_sem,r0,r5,hl2]
     have:=fin (((K.bump 4).put c0 (.els 1 (encI (M.take i'++List.replicate (l.length-i') 0)) 0)).bump 4) (by show K.next≤_;simp only[go_sem];omega) (fun c hcc=>by show(Heap.put _ c0 _).get c=_;rw[Heap.put_ne _ _ (by omega)];rfl) _ hg2 (by rw[List.take_append_of_le_length (by rw[List.length_take];omega),List.take_take,Nat.min_self]) hlM w hw
     refine⟨by omega,fun c hcc=> ?_,this.2.2⟩
     rw[if_neg (by omega)]
     rw[hG c hcc,h0 c hcc]
   ·rw[List.take_succ_eq_append_getElem hi,List.filter_append]
    have:(l.take i).filter (fun x=> !p x)=l.take i:=List.filter_eq_self.2 fun x hx=>by
     obtain⟨j,hj,rfl⟩:=List.getElem_of_mem hx
     rw[List.length_take]at hj
     rw[List.getElem_take,hn j (by omega) (by omega)];rfl
    rw[this]
    simp[hy hi]
   all_goals first|(simp only[go_sem];done)|(simp only[go_sem];rfl)
end Go.Proofs.Ytfleilibjdgcjaa.V
