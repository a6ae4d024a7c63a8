/- Shaken copy of a longer text: what one law needs. Its conditions: none. -/
import Derived.Test.YthodcjjgimeeoaaGreatZAiC
import Derived.TacticsIn
import Derived.RangeFuncLeaves
set_option linter.unusedSimpArgs false
set_option linter.unusedVariables false
set_option linter.unusedSectionVars false
set_option linter.unnecessarySimpa false
namespace Go.AI
def zot (St:Nat→Heap→Heap→Prop):List Nat→Heap→Heap→Prop
 |[],h,h'=>h=h'
 |i::l,h,h'=>∃h1,St i h h1∧zot St l h1 h'
def zBY (St:Nat→Heap→Heap→Prop) (i j:Nat):Prop:=∀h h1 h2,St i h h1→St j h1 h2→∃h1',St j h h1'∧St i h1' h2
theorem zkt {St:Nat→Heap→Heap→Prop} {i:Nat} {b:List Nat}:∀{a:List Nat} {h h':Heap},(∀j∈a,zBY St j i)→zot St (a++i::b) h h'→zot St (i::(a++b)) h h'
 |[],_,_,_,x=>x
 |j::a,h,h',hs,⟨h1,s1,x⟩=>by
  obtain⟨h2,s2,y⟩:=zkt (fun k hk=>hs k (by simp[hk])) x
  obtain⟨h3,s3,s4⟩:=hs j (by simp) h h1 h2 s1 s2
  exact⟨h3,s3,h2,s4,y⟩
theorem zlF {St:Nat→Heap→Heap→Prop} {C:Nat→Nat→Prop} (hC:∀i j,i<j→C i j→zBY St i j):∀(l s:List Nat),l.Perm s→s.Pairwise (· < ·)→l.Pairwise (fun a b=>b<a→C b a)→∀{h h':Heap},zot St s h h'→zot St l h h'
 |[],s,hp,_,_,h,h',x=>by
  have:=hp.nil_eq
  subst this;exact x
 |i::l,s,hp,hs,hl,h,h',x=>by
  have hi:i∈s:=hp.subset (by simp)
  obtain⟨a,b,rfl⟩:=List.append_of_mem hi
  have hp2:l.Perm (a++b):=by
   have h1:(a++i::b).Perm (i::(a++b)):=List.perm_middle
   exact List.Perm.cons_inv (hp.trans h1)
  have hpa:=List.pairwise_append.1 hs
  have hcl:=List.pairwise_cons.1 hl
  obtain⟨h1,s1,y⟩:=zkt (i:=i) (a:=a) (b:=b) (fun j hj=>by
   have hji:j<i:=hpa.2.2 j hj i (by simp)
   have hjl:j∈l:=hp2.symm.subset (by simp[hj])
   exact hC j i hji (hcl.1 j hjl hji)) x
  refine⟨h1,s1,zlF hC l (a++b) hp2 ?_ hcl.2 y⟩
  have hb:=List.pairwise_cons.1 hpa.2.1
  exact List.pairwise_append.2 ⟨hpa.1,hb.2,fun p hpm q hq=>hpa.2.2 p hpm q (by simp[hq])⟩
theorem zou {app:App} {sh:FuncId→Bool} {fr:Nat} {env env' r:Regs} {h:Heap} {so:SOp} (hh:∀y∈so.opds,opd env r y=opd env' r y):zad app sh fr env r h so=zad app sh fr env' r h so:=by
 have hl:∀{l:List Opd},(∀y∈l,opd env r y=opd env' r y)→l.map (opd env r)=l.map (opd env' r):=fun h=>List.map_congr_left h
 cases so with
 |build z ps=>
  have:(ps.map fun(x:Nat×Nat×Opd)=>(x.1,x.2.1,opd env r x.2.2))=ps.map fun x=>(x.1,x.2.1,opd env' r x.2.2):=List.map_congr_left fun x hx=>by
   rw[hh x.2.2 (by simp only[SOp.opds,List.mem_map];exact⟨x,hx,rfl⟩)]
  simp only[zad,this]
 |bslice n z ps=>
  have:(ps.map fun(x:Nat×Opd)=>(x.1,opd env r x.2))=ps.map fun x=>(x.1,opd env' r x.2):=List.map_congr_left fun x hx=>by
   rw[hh x.2 (by simp only[SOp.opds,List.mem_map];exact⟨x,hx,rfl⟩)]
  simp only[zad,this]
 |mkFunc f a b=>simp only[zad,hl (l:=a) (fun y hy=>hh y (by simp[SOp.opds,hy])),hl (l:=b) (fun y hy=>hh y (by simp[SOp.opds,hy]))]
 |call f a=>simp only[zad,hl (l:=a) (fun y hy=>hh y (by simp[SOp.opds,hy]))]
 |callv f a=>simp only[zad,hl (l:=a) (fun y hy=>hh y (by simp[SOp.opds,hy])),hh f (by simp[SOp.opds])]
 |mx a=>simp only[zad,hl (l:=a) (fun y hy=>hh y (by simp[SOp.opds,hy]))]
 |mn a=>simp only[zad,hl (l:=a) (fun y hy=>hh y (by simp[SOp.opds,hy]))]
 |slice sz x lo hi mx=>
  have ho:∀{o:Option Opd},(∀y∈o.toList,opd env r y=opd env' r y)→o.map (opd env r)=o.map (opd env' r):=by
   intro o h
   cases o with
   |none=>rfl
   |some y=>simp[h y (by simp)]
  simp only[zad,hh x (by simp[SOp.opds]),ho (o:=lo) (fun y hy=>hh y (by simp only[SOp.opds,List.mem_cons,List.mem_append];exact .inr (.inl (.inl hy)))),
   ho (o:=hi) (fun y hy=>hh y (by simp only[SOp.opds,List.mem_cons,List.mem_append];exact .inr (.inl (.inr hy)))),ho (o:=mx) (fun y hy=>hh y (by simp only[SOp.opds,List.mem_cons,List.mem_append];exact .inr (.inr hy)))]
 |alloc=>rfl
 |mkMap=>rfl
 |_=>simp[SOp.opds]at hh;simp only[zad,hh]
def Stp (app:App) (sh:FuncId→Bool) (base:Nat) (ops:List (SOp×Option (Nat×Bool))) (env r:Regs) (i:Nat) (h h':Heap):Prop:=
 match ops[i]? with
 |none=>h'=h
 |some (so,g)=>if zbc env g=true then zad app sh (base+i) env r h so=some (env i,h')else env i= .d (.tuple [])∧h'=h
def zGe (ops:List (SOp×Option (Nat×Bool))) (k:Nat):Prop:=
 ∀(i:Nat) so g,ops[i]? =some (so,g)→(∀j,.l j∈so.opds→j<k+i)∧∀j t,g=some (j,t)→j<k+i
theorem zfe {app:App} {sh:FuncId→Bool} {base:Nat} {all:List (SOp×Option (Nat×Bool))} {r:Regs}:∀(ops:List (SOp×Option (Nat×Bool))) (k:Nat) (env env':Regs) (h h':Heap),
 all.drop k=ops→zGe ops k→zbj app sh base r ops k env h=some (env',h')→(∀j,j<k→env' j=env j)∧zot (Stp app sh base all env' r) (List.range' k ops.length) h h'
 |[],k,env,env',h,h',_,_,he=>by
  simp only[zbj,Option.some.injEq,Prod.mk.injEq]at he
  obtain⟨rfl,rfl⟩:=he
  exact⟨fun _ _=>rfl,rfl⟩
 |(so,g)::ops,k,env,env',h,h',hd,hlo,he=>by
  have hk:all[k]? =some (so,g):=by
   have:(all.drop k)[0]? =some (so,g):=by rw[hd];rfl
   simpa using this
  have hd2:all.drop (k+1)=ops:=by
   have:(all.drop k).drop 1=ops:=by rw[hd];rfl
   rw[List.drop_drop]at this;exact this
  have hlo2:zGe ops (k+1):=fun i s2 g2 h2=>by
   have:=hlo (i+1) s2 g2 (by simpa using h2)
   exact⟨fun j hj=>by have:=this.1 j hj;omega,fun j t hj=>by have:=this.2 j t hj;omega⟩
  have h0:=hlo 0 so g rfl
  simp only[Nat.add_zero]at h0
  have hwant:∀e:Regs,(∀j,j<k→e j=env j)→zbc e g=zbc env g:=by
   intro e hee
   cases g with
   |none=>rfl
   |some x=>
    obtain⟨j,t⟩:=x
    simp only[zbc,hee j (h0.2 j t rfl)]
  have hcong:∀e:Regs,(∀j,j<k→e j=env j)→zad app sh (base+k) e r h so=zad app sh (base+k) env r h so:=fun e hee=>zou fun y hy=>by
   cases y with
   |l j=>exact hee j (h0.1 j hy)
   |r t=>rfl
   |k x=>rfl
  simp only[zbj]at he
  split at he
  ·rename_i hw
   obtain⟨⟨v,h1⟩,e1,he⟩:=Option.bind_eq_some_iff.1 he
   obtain⟨i1,i2⟩:=zfe ops (k+1) (env.set k v) env' h1 h' hd2 hlo2 he
   have hlow:∀j,j<k→env' j=env j:=fun j hj=>by
    rw[i1 j (by omega)]
    have:(j==k)=false:=by simp;omega
    simp[Regs.set,this]
   have hat:env' k=v:=by rw[i1 k (by omega)];simp[Regs.set]
   refine⟨hlow,?_⟩
   rw[List.length_cons,List.range'_succ]
   refine⟨h1,?_,i2⟩
   simp only[Stp,hk]
   rw[if_pos (by rw[hwant env' hlow];exact hw),hcong env' hlow,e1,hat]
  ·rename_i hw
   obtain⟨i1,i2⟩:=zfe ops (k+1) (env.set k (.d (.tuple []))) env' h h' hd2 hlo2 he
   have hlow:∀j,j<k→env' j=env j:=fun j hj=>by
    rw[i1 j (by omega)]
    have:(j==k)=false:=by simp;omega
    simp[Regs.set,this]
   have hat:env' k= .d (.tuple []):=by rw[i1 k (by omega)];simp[Regs.set]
   refine⟨hlow,?_⟩
   rw[List.length_cons,List.range'_succ]
   refine⟨h,?_,i2⟩
   simp only[Stp,hk]
   rw[if_neg (by rw[hwant env' hlow];exact hw)]
   exact⟨hat,trivial⟩
end Go.AI
namespace Go.AI
def Later (ops:Array Oper):Prop:=∀(i:Nat) o,ops[i]? =some o→∀e∈o.after.toList,Region.binds .any e=true→e.on<i
structure Lined (ops:Array Oper) (acc:List Nat):Prop where
 nodup:acc.Nodup
 lt:∀i∈acc,i<ops.size
 after:∀x a y,acc=x++a::y→∀o,ops[a]? =some o→∀e∈o.after.toList,Region.binds .any e=true→e.on∈y
theorem Lined.cons {ops:Array Oper} {acc:List Nat} (h:Lined ops acc) {i:Nat} (hi:i<ops.size) (hn:i∉acc) (ha:∀o,ops[i]? =some o→∀e∈o.after.toList,Region.binds .any e=true→e.on∈acc):Lined ops (i::acc):=by
 refine⟨List.nodup_cons.2 ⟨hn,h.nodup⟩,fun j hj=> ?_,fun x a y hx=> ?_⟩
 ·rcases List.mem_cons.1 hj with rfl|hj
  ·exact hi
  ·exact h.lt j hj
 ·cases x with
  |nil=>simp only[List.nil_append,List.cons.injEq]at hx;obtain⟨rfl,rfl⟩:=hx;exact ha
  |cons b x=>simp only[List.cons_append,List.cons.injEq]at hx;exact h.after x a y hx.2
theorem zrY {ops:Array Oper} (hA:Later ops):∀(fuel t:Nat) (listed:Array Bool) (acc:List Nat),listed.size=ops.size→(∀i,i<ops.size→(listed.getD i false=true↔i∈acc))→Lined ops acc→acc.length+fuel=ops.size→
 ∃l,Region.linearise.go .any ops fuel t listed acc=l.reverse∧Lined ops l∧l.length=ops.size
 |0,t,listed,acc,hs,hm,hl,hn=>⟨acc,rfl,hl,by omega⟩
 |fuel+1,t,listed,acc,hs,hm,hl,hn=>by
  have hgd:∀i,i<ops.size→listed.getD i true=listed.getD i false:=fun i hi=>by
   have:i<listed.size:=by omega
   simp[Array.getD,this]
  have hready:∀i,i∈((List.range ops.size).filter fun i=> !listed.getD i true&&((ops[i]?).map (·.after.all fun e=> !Region.binds .any e||listed.getD e.on false)).getD false)→
   i<ops.size∧i∉acc∧∀o,ops[i]? =some o→∀e∈o.after.toList,Region.binds .any e=true→e.on∈acc:=by
   intro i hi
   rw[List.mem_filter]at hi
   have hin:=List.mem_range.1 hi.1
   have h2:=hi.2
   simp only[Bool.and_eq_true,Bool.not_eq_true']at h2
   refine⟨hin,fun hh=> ?_,fun o ho e he hb=> ?_⟩
   ·rw[hgd i hin,(hm i hin).2 hh]at h2;exact absurd h2.1 (by simp)
   ·rw[ho]at h2
    simp only[Option.map_some,Option.getD_some]at h2
    rw[←Array.all_toList,List.all_eq_true]at h2
    have:=h2.2 e he
    rw[hb]at this
    simp only[Bool.not_true,Bool.false_or]at this
    have hon:e.on<ops.size:=by have:=hA i o ho e he hb;omega
    exact(hm e.on hon).1 this
  have hne:((List.range ops.size).filter fun i=> !listed.getD i true&&((ops[i]?).map (·.after.all fun e=> !Region.binds .any e||listed.getD e.on false)).getD false)≠[]:=by
   have hex:∃i,i<ops.size∧i∉acc:=by
    apply Classical.byContradiction
    intro hno
    have hsub:List.range ops.size⊆acc:=fun i hi=>Classical.byContradiction fun hh=>hno ⟨i,List.mem_range.1 hi,hh⟩
    have:=List.nodup_range.length_le_of_subset hsub
    rw[List.length_range]at this
    omega
   obtain⟨i,⟨hi1,hi2⟩,hmin⟩:∃i,(i<ops.size∧i∉acc)∧∀j,j<i→j∈acc:=by
    obtain⟨i0,hi0⟩:=hex
    have key:∀n i,i<n→(i<ops.size∧i∉acc)→∃i,(i<ops.size∧i∉acc)∧∀j,j<i→j∈acc:=by
     intro n
     induction n with
     |zero=>intro i hi;omega
     |succ n ih=>
      intro i hin hi
      by_cases hall:∀j,j<i→j∈acc
      ·exact⟨i,hi,hall⟩
      ·obtain⟨j,hj⟩:=Classical.not_forall.1 hall
       have hj1:j<i:=Classical.byContradiction fun hh=>hj fun h=>absurd h hh
       have hj2:j∉acc:=fun hh=>hj fun _=>hh
       exact ih j (by omega) ⟨by omega,hj2⟩
    exact key (i0+1) i0 (by omega) hi0
   intro hnil
   have:i∈((List.range ops.size).filter fun i=> !listed.getD i true&&((ops[i]?).map (·.after.all fun e=> !Region.binds .any e||listed.getD e.on false)).getD false):=by
    rw[List.mem_filter]
    refine⟨List.mem_range.2 hi1,?_⟩
    have hf:listed.getD i true=false:=by
     rw[hgd i hi1]
     cases hh:listed.getD i false with
     |false=>rfl
     |true=>exact absurd ((hm i hi1).1 hh) hi2
    rw[hf,Array.getElem?_eq_getElem hi1]
    simp only[Bool.not_false,Bool.true_and,Option.map_some,Option.getD_some]
    rw[←Array.all_toList,List.all_eq_true]
    intro e he
    cases hb:Region.binds .any e with
    |false=>rfl
    |true=>
     have hon:=hA i ops[i] (Array.getElem?_eq_getElem hi1) e he hb
     rw[(hm e.on (by omega)).2 (hmin e.on hon)];rfl
   rw[hnil]at this;cases this
  simp only[Region.linearise.go]
  generalize hrs:((List.range ops.size).filter fun i=> !listed.getD i true&&((ops[i]?).map (·.after.all fun e=> !Region.binds .any e||listed.getD e.on false)).getD false)=rs at hready hne
  have hlen:t %rs.length<rs.length:=Nat.mod_lt _ (List.length_pos_iff.2 hne)
  rw[List.getElem?_eq_getElem hlen]
  dsimp only
  obtain⟨h1,h2,h3⟩:=hready rs[t %rs.length] (List.getElem_mem hlen)
  refine zrY hA fuel _ _ _ (by simpa using hs) (fun j hj=> ?_) (hl.cons h1 h2 h3) (by simp;omega)
  rw[List.mem_cons]
  by_cases hji:j=rs[t %rs.length]
  ·have hjs:j<listed.size:=by omega
   subst hji
   simp[Array.getD,hjs]
  ·have:=hm j hj
   simp only[hji,false_or]
   rw[←this]
   have hjs:j<listed.size:=by omega
   simp[Array.getD,hjs,Array.getElem_setIfInBounds,Ne.symm hji]
theorem zqx {ops:Array Oper} (hA:Later ops) (t:Nat):∃l:List Nat,Region.schedule true ops t=l∧l.Perm (List.range ops.size)∧∀x a y,l=x++a::y→∀o,ops[a]? =some o→∀e∈o.after.toList,Region.binds .any e=true→e.on∈x:=by
 obtain⟨l,h1,h2,h3⟩:=zrY hA ops.size t (Array.replicate ops.size false) [] (by simp) (fun i hi=>by simp[Array.getD,hi]) ⟨List.nodup_nil,by simp,fun x a y h=>by simp at h⟩ (by simp)
 refine⟨l.reverse,by simp only[Region.schedule,Bool.true_or,if_true,Region.linearise];exact h1,?_,fun x a y hx o ho e he hb=> ?_⟩
 ·refine(List.reverse_perm l).trans ((List.perm_ext_iff_of_nodup h2.nodup List.nodup_range).2 fun i=>⟨fun hi=>List.mem_range.2 (h2.lt i hi),fun hi=> ?_⟩)
  apply Classical.byContradiction
  intro hn
  have hsub:(i::l)⊆List.range ops.size:=fun j hj=>by
   rcases List.mem_cons.1 hj with rfl|hj
   ·exact hi
   ·exact List.mem_range.2 (h2.lt j hj)
  have:=(List.nodup_cons.2 ⟨hn,h2.nodup⟩).length_le_of_subset hsub
  simp at this;omega
 ·have:l=y.reverse++a::x.reverse:=by
   have:=congrArg List.reverse hx
   simpa using this
  have:=h2.after _ a _ this o ho e he hb
  simpa using this
def zes (acc:Array Nat) (o:Oper):Array Nat:=acc.push (o.after.foldl (fun s e=>if Region.binds .any e then s|||2^e.on|||acc.getD e.on 0 else s) 0)
theorem zxu (ops:Array Oper):Region.before ops=ops.toList.foldl zes #[]:=by
 rw[Array.foldl_toList];rfl
theorem zov (acc:Array Nat) (b:Nat):∀(l:List Edge) (s:Nat),(l.foldl (fun s e=>if Region.binds .any e then s|||2^e.on|||acc.getD e.on 0 else s) s).testBit b=true→
 s.testBit b=true∨∃e∈l,Region.binds .any e=true∧(b=e.on∨(acc.getD e.on 0).testBit b=true)
 |[],s,h=> .inl h
 |e::l,s,h=>by
  rw[List.foldl_cons]at h
  rcases zov acc b l _ h with h1|⟨e',h1,h2,h3⟩
  ·split at h1
   ·rename_i hb
    rw[Nat.testBit_or,Nat.testBit_or,Nat.testBit_two_pow]at h1
    simp only[Bool.or_eq_true,decide_eq_true_eq]at h1
    rcases h1 with(h1|h1)|h1
    ·exact .inl h1
    ·exact .inr ⟨e,by simp,hb,.inl h1.symm⟩
    ·exact .inr ⟨e,by simp,hb,.inr h1⟩
   ·exact .inl h1
  ·exact .inr ⟨e',by simp[h1],h2,h3⟩
theorem zJN (l:List Oper):∀n,n≤l.length→((l.take n).foldl zes #[]).size=n∧∀(i b:Nat),i<n→(((l.take n).foldl zes #[]).getD i 0).testBit b=true→
 ∃o,l[i]? =some o∧∃e∈o.after.toList,Region.binds .any e=true∧(b=e.on∨(e.on<i∧(((l.take n).foldl zes #[]).getD e.on 0).testBit b=true)):=by
 intro n
 induction n with
 |zero=>exact fun _=>⟨rfl,fun i b h=>by omega⟩
 |succ n ih=>
  intro hn
  obtain⟨h1,h2⟩:=ih (by omega)
  have hln:n<l.length:=by omega
  have ht:l.take (n+1)=l.take n++[l[n]]:=by rw[List.take_succ_eq_append_getElem hln]
  rw[ht,List.foldl_append,List.foldl_cons,List.foldl_nil]
  generalize hacc:(l.take n).foldl zes #[]=acc at h1 h2
  have hlow:∀j,j<n→(zes acc l[n]).getD j 0=acc.getD j 0:=fun j hj=>by
   simp only[zes,Array.getD]
   have a1:j<acc.size:=by omega
   have a2:j<(acc.push (l[n].after.foldl (fun s e=>if Region.binds .any e then s|||2^e.on|||acc.getD e.on 0 else s) 0)).size:=by simp;omega
   rw[dif_pos a1]
   simp only[Array.getD]at a2
   rw[dif_pos a2]
   simp[Array.getElem_push_lt a1]
  refine⟨by simp[zes,h1],fun i b hi hb=> ?_⟩
  by_cases hin:i<n
  ·rw[hlow i hin]at hb
   obtain⟨o,ho,e,he,hbi,hor⟩:=h2 i b hin hb
   refine⟨o,ho,e,he,hbi,hor.imp id fun⟨p,q⟩=>⟨p,?_⟩⟩
   rw[hlow e.on (by omega)];exact q
  ·have:i=n:=by omega
   subst this
   refine⟨l[i],List.getElem?_eq_getElem hln,?_⟩
   have hat:(zes acc l[i]).getD i 0=l[i].after.foldl (fun s e=>if Region.binds .any e then s|||2^e.on|||acc.getD e.on 0 else s) 0:=by
    have hv:∀v:Nat,(acc.push v).getD i 0=v:=fun v=>by rw[←h1];simp[Array.getD]
    exact hv _
   rw[hat,←Array.foldl_toList]at hb
   rcases zov acc b _ _ hb with h3|⟨e,he,hbi,hor⟩
   ·simp at h3
   ·refine⟨e,he,hbi,hor.imp id fun h4=> ?_⟩
    have hlt:e.on<i:=by
     rcases Nat.lt_or_ge e.on i with h5|h5
     ·exact h5
     ·have:¬e.on<acc.size:=by omega
      simp[Array.getD,this]at h4
    exact⟨hlt,by rw[hlow e.on hlt];exact h4⟩
theorem zub {ops:Array Oper} {i b:Nat} (h:((Region.before ops).getD i 0).testBit b=true):
 ∃o,ops[i]? =some o∧∃e∈o.after.toList,Region.binds .any e=true∧(b=e.on∨(e.on<i∧((Region.before ops).getD e.on 0).testBit b=true)):=by
 rw[zxu]at h⊢
 have hb:=zJN ops.toList ops.toList.length (Nat.le_refl _)
 rw[List.take_length]at hb
 have hi:i<ops.toList.length:=by
  rcases Nat.lt_or_ge i ops.toList.length with h1|h1
  ·exact h1
  ·have:¬i<(ops.toList.foldl zes #[]).size:=by rw[hb.1];omega
   unfold Array.getD at h
   rw[dif_neg this]at h
   simp at h
 obtain⟨o,ho,r⟩:=hb.2 i b hi h
 exact⟨o,by simpa using ho,r⟩
theorem ahead {ops:Array Oper} {l:List Nat} (hl:∀x a y,l=x++a::y→∀o,ops[a]? =some o→∀e∈o.after.toList,Region.binds .any e=true→e.on∈x):∀(n a:Nat),a<n→∀(b:Nat) (x y:List Nat),l=x++a::y→
 ((Region.before ops).getD a 0).testBit b=true→b∈x
 |n+1,a,ha,b,x,y,hx,hb=>by
  obtain⟨o,ho,e,he,hbi,hor⟩:=zub hb
  have hin:=hl x a y hx o ho e he hbi
  rcases hor with rfl|⟨hlt,hb2⟩
  ·exact hin
  ·obtain⟨x1,x2,rfl⟩:=List.append_of_mem hin
   have:=ahead hl n e.on (by omega) b x1 (x2++a::y) (by rw[hx];simp) hb2
   simp[this]
end Go.AI
namespace Go.AI
variable {P:Program} {sh:FuncId→Bool} {T:Tabs} {κ:Ctx T} {φ φ':Place} {H H':Heap} {w w' w'':World} {S S':Nat→Nat→Prop}
def dstOf (ops:Array Oper) (k:Nat):Option Nat:=(ops[k]?).bind (·.dst)
def cur (ops:Array Oper) (done:List Nat) (t:Nat):Option Nat:=done.find? fun k=>dstOf ops k==some t
def adv:List Oper→Nat→List (Nat×Nat)→List (Nat×Nat)
 |[],_,wr=>wr
 |o::r,i,wr=>adv r (i+1) (zNP o.dst i wr)
structure Fits (P:Program) (U:Nat→Bool) (nt:Nat) (ops:Array Oper) (sops:List (SOp×Option (Nat×Bool))) (i:Nat) (done:List Nat):Prop where
 of:∃o so wr,ops[i]? =some o∧sops[i]? =some (so,o.guard)∧prepOp P U nt wr o=some so∧(∀d,o.dst=some d→d<nt)∧
  (∀t k,wr.lookup t=some k→.l k∈so.opds→t<nt∧cur ops done t=some k)∧(∀t,wr.lookup t=none→.r t∈so.opds→cur ops done t=none)∧
  (∀j want,o.guard=some (j,want)→∃d,d<nt∧dstOf ops j=some d∧cur ops done d=some j)
def RSt (φ:Place) (w:World) (S:Nat→Nat→Prop) (U:Nat→Bool) (nt:Nat) (ops:Array Oper) (env r:Regs) (done:List Nat) (tmps:Array Value):Prop:=
 nt≤tmps.size∧∀t,t<nt→match cur ops done t with
  |some k=>Rel φ w S (env k) (tmps.getD t undef)
  |none=>U t=true→Rel φ w S (r t) (tmps.getD t undef)
theorem RSt.ext (e:Ext κ φ H w φ' H' w') {U:Nat→Bool} {nt:Nat} {ops:Array Oper} {env r:Regs} {done:List Nat} {tmps:Array Value} (h:RSt φ w (stab κ φ H) U nt ops env r done tmps):RSt φ' w' (stab κ φ' H') U nt ops env r done tmps:=by
 refine⟨h.1,fun t ht=> ?_⟩
 have:=h.2 t ht
 split
 ·rename_i k hk;rw[hk]at this;exact e.rv this
 ·rename_i hk;rw[hk]at this;exact fun hu=>e.rv (this hu)
theorem RSt.put {U:Nat→Bool} {nt:Nat} {ops:Array Oper} {env r:Regs} {done:List Nat} {a:Act} (h:RSt φ w S U nt ops env r done a.tmps) {i:Nat} {o:Oper} (ho:ops[i]? =some o) (hd:∀d,o.dst=some d→d<nt) {mv:Value} (hr:Rel φ w S (env i) mv):
 RSt φ w S U nt ops env r (i::done) (a.put o.dst mv).tmps:=by
 have hdst:dstOf ops i=o.dst:=by simp[dstOf,ho]
 cases hod:o.dst with
 |none=>
  refine⟨h.1,fun t ht=> ?_⟩
  have hc:cur ops (i::done) t=cur ops done t:=by
   unfold cur;rw[List.find?_cons,hdst,hod];rfl
  rw[hc];exact h.2 t ht
 |some d=>
  have hdn:=hd d hod
  refine⟨by simp only[Act.put,Array.size_setIfInBounds];exact h.1,fun t ht=> ?_⟩
  by_cases htd:t=d
  ·subst htd
   have hc:cur ops (i::done) t=some i:=by
    unfold cur;rw[List.find?_cons,hdst,hod];simp
   rw[hc]
   have hlt:t<a.tmps.size:=Nat.lt_of_lt_of_le hdn h.1
   have hg:(a.put (some t) mv).tmps.getD t undef=mv:=by simp[Act.put,Array.getD,hlt]
   rw[hg];exact hr
  ·have hc:cur ops (i::done) t=cur ops done t:=by
    have hne:(some d==some t)=false:=by simp;exact Ne.symm htd
    unfold cur;rw[List.find?_cons,hdst,hod,hne]
   have hg:(a.put (some d) mv).tmps.getD t undef=a.tmps.getD t undef:=by
    have hlt:t<a.tmps.size:=Nat.lt_of_lt_of_le ht h.1
    simp[Act.put,Array.getD,hlt,Array.getElem_setIfInBounds,Ne.symm htd]
   rw[hc,hg];exact h.2 t ht
theorem Act.put_defers (a:Act) (d:Option Tmp) (v:Value):(a.put d v).defers=a.defers:=by cases d<;>rfl
theorem RSt.opds {U:Nat→Bool} {nt:Nat} {ops:Array Oper} {env r:Regs} {done:List Nat} {a:Act} (h:RSt φ w S U nt ops env r done a.tmps) {so:SOp} {wr:List (Nat×Nat)}
 (h1:∀t k,wr.lookup t=some k→.l k∈so.opds→t<nt∧cur ops done t=some k) (h2:∀t,wr.lookup t=none→.r t∈so.opds→cur ops done t=none):zbA (·∈so.opds) U nt wr env r a.eval φ w S:=by
 intro x y hp hy
 cases x with
 |tmp t=>
  simp only[zbz]at hp
  cases hl:wr.lookup t with
  |some k=>
   rw[hl]at hp
   simp only[Option.some.injEq]at hp;subst hp
   obtain⟨ht,hc⟩:=h1 t k hl hy
   have:=h.2 t ht
   rw[hc]at this
   exact this
  |none=>
   rw[hl]at hp
   simp only at hp
   split at hp
   ·rename_i hu
    simp only[Option.some.injEq]at hp;subst hp
    simp only[Bool.and_eq_true,decide_eq_true_eq]at hu
    have:=h.2 t hu.2
    rw[h2 t hl hy]at this
    exact this hu.1
   ·cases hp
 |const v=>
  simp only[zbz]at hp
  obtain⟨x,h3,rfl⟩:=zaw hp
  exact .d (zbX h3)
 |func f=>
  simp only[zbz,Option.some.injEq]at hp;subst hp
  exact .d (.fn f)
 |global g=>cases hp
theorem zjz {ro:Option Nat} {app:App} (happ:zli T P sh app) {U:Nat→Bool} {nt base:Nat} {ops:Array Oper} {sops:List (SOp×Option (Nat×Bool))} {env r:Regs}
 (hg:∀(i:Nat) so j want,sops[i]? =some (so,some (j,want))→zbR (env j)=true) {Q:Exit→Act→World→Prop}:∀(l done:List Nat) (φ:Place) (H H':Heap) (a:Act) (w:World),
 (∀x i y,l=x++i::y→Fits P U nt ops sops i (x.reverse++done))→l.Nodup→Sim P sh κ φ H w→RSt φ w (stab κ φ H) U nt ops env r done a.tmps→(∀i∈l,φ (base+i)= .unborn∧base+i<H.next)→
 zot (Stp app sh base sops env r) l H H'→
 (∀a' w' φ',Sim P sh κ φ' H' w'→Ext κ φ H w φ' H' w'→RSt φ' w' (stab κ φ' H') U nt ops env r (l.reverse++done) a'.tmps→a'.defers=a.defers→(∀b,b<H.next→φ b= .unborn→(∀i∈l,b≠base+i)→φ' b= .unborn)→Q .normal a' w')→
 wpOpsIn (zua ro) 0 P ops Q l a w
 |[],done,φ,H,H',a,w,_,_,s,hr,_,hc,hQ=>by
  have:H=H':=hc
  subst this
  exact hQ a w φ s .refl hr rfl (fun _ _ h _=>h)
 |i::l,done,φ,H,H',a,w,hf,hnd,s,hr,hu,⟨H1,hst,hc⟩,hQ=>by
  obtain⟨o,so,wr,ho,hso,hp,hd,h1,h2,h3⟩:=(hf [] i l rfl).of
  simp only[List.reverse_nil,List.nil_append]at h1 h2 h3
  have hnd':=List.nodup_cons.1 hnd
  have hf':∀x j y,l=x++j::y→Fits P U nt ops sops j (x.reverse++(i::done)):=fun x j y hx=>by
   have:=hf (i::x) j y (by rw[hx];rfl)
   simpa using this
  simp only[Stp,hso]at hst
  have hw:Region.wanted o (yielded ops a.tmps)=zbc env o.guard:=by
   cases hgd:o.guard with
   |none=>simp only[Region.wanted,hgd,zbc]
   |some x=>
    obtain⟨j,want⟩:=x
    obtain⟨d,hdn,hdj,hcj⟩:=h3 j want hgd
    have hb:=hg i so j want (by rw[hso,hgd])
    have hrel:=hr.2 d hdn
    rw[hcj]at hrel
    dsimp only at hrel
    have hlt:d<a.tmps.size:=Nat.lt_of_lt_of_le hdn hr.1
    have hy:yielded ops a.tmps j=(match a.tmps.getD d undef with| .bool b=>some b|_=>none):=by
     unfold yielded
     unfold dstOf at hdj
     rw[hdj]
     simp only[Option.bind_some,Array.getElem?_eq_getElem hlt]
     have:a.tmps.getD d undef=a.tmps[d]:=by simp[Array.getD,hlt]
     rw[this]
     cases a.tmps[d]<;>rfl
    simp only[Region.wanted,hgd,zbc,hy]
    generalize a.tmps.getD d undef=mv at hrel
    generalize env j=ev at hb hrel
    unfold zbR at hb
    split at hb
    ·have:=hrel.d_inv
     cases this
     simp
    ·have:=hrel.d_inv
     cases this
     simp
    ·cases hb
  simp only[wpOpsIn,ho]
  rw[hw]
  by_cases hwt:zbc env o.guard=true
  ·rw[if_pos hwt]at hst⊢
   obtain⟨hfr,hlt⟩:=hu i (by simp)
   refine zOb happ s hfr hlt (hr.opds h1 h2) hp (fun _ h=>h) hst fun mv w1 φ1 s1 e1 r1 u1=> ?_
   have hr1:RSt φ1 w1 (stab κ φ1 H1) U nt ops env r (i::done) (a.put o.dst mv).tmps:=(hr.ext e1).put ho hd r1
   refine zjz happ hg l (i::done) φ1 H1 H' (a.put o.dst mv) w1 hf' hnd'.2 s1 hr1 (fun j hj=> ?_) hc fun a2 w2 φ2 s2 e2 r2 d2 u2=> ?_
   ·obtain⟨g1,g2⟩:=hu j (by simp[hj])
    have hji:j≠i:=fun h=>hnd'.1 (h▸hj)
    exact⟨u1 _ g2 g1 (by omega),Nat.lt_of_lt_of_le g2 e1.next⟩
   ·refine hQ a2 w2 φ2 s2 (e1.trans e2) (by simpa using r2) (by rw[d2,Act.put_defers]) fun b hb hub hbn=> ?_
    exact u2 b (Nat.lt_of_lt_of_le hb e1.next) (u1 b hb hub (hbn i (by simp))) (fun j hj=>hbn j (by simp[hj]))
  ·rw[if_neg hwt]at hst
   obtain⟨hei,rfl⟩:=hst
   rw[if_neg hwt]
   refine⟨fun _ _=>trivial,?_⟩
   have hr1:RSt φ w (stab κ φ H1) U nt ops env r (i::done) (a.put o.dst undef).tmps:=hr.put ho hd (by rw[hei];exact .d (.tuple rfl (fun j x v hx=>by simp at hx)))
   refine zjz happ hg l (i::done) φ H1 H' (a.put o.dst undef) w hf' hnd'.2 s hr1 (fun j hj=>hu j (by simp[hj])) hc fun a2 w2 φ2 s2 e2 r2 d2 u2=> ?_
   exact hQ a2 w2 φ2 s2 e2 (by simpa using r2) (by rw[d2,Act.put_defers]) fun b hb hub hbn=>u2 b hb hub (fun j hj=>hbn j (by simp[hj]))
end Go.AI
namespace Go.AI
variable {P:Program} {sh:FuncId→Bool} {T:Tabs} {κ:Ctx T} {φ φ':Place} {H H':Heap} {w w' w'':World} {S S':Nat→Nat→Prop}
theorem zfS {U:Nat→Bool} {nt:Nat}:∀(l:List Oper) (i:Nat) (wr:List (Nat×Nat)) (sops:List (SOp×Option (Nat×Bool))) (wf:List (Nat×Nat)),zgM P U nt l i wr=some (sops,wf)→
 sops.length=l.length∧wf=adv l i wr∧∀(j:Nat) o,l[j]? =some o→∃so,sops[j]? =some (so,o.guard)∧prepOp P U nt (adv (l.take j) i wr) o=some so∧(∀d,o.dst=some d→d<nt)∧
  ∀k want,o.guard=some (k,want)→∃t,(adv (l.take j) i wr).lookup t=some k
 |[],i,wr,sops,wf,h=>by
  simp only[zgM,Option.some.injEq,Prod.mk.injEq]at h
  obtain⟨rfl,rfl⟩:=h
  exact⟨rfl,rfl,fun j o h=>by simp at h⟩
 |o::l,i,wr,sops,wf,h=>by
  simp only[zgM]at h
  obtain⟨s,h1,h⟩:=zas h
  split at h
  case isFalse=>cases h
  rename_i hc
  simp only[Bool.and_eq_true]at hc
  obtain⟨hc1,hc2⟩:=hc
  obtain⟨⟨sops',wf'⟩,h2,h3⟩:=zaw h
  simp only[Prod.mk.injEq]at h3
  obtain⟨rfl,rfl⟩:=h3
  obtain⟨a1,a2,a3⟩:=zfS l (i+1) _ sops' wf' h2
  refine⟨by simp[a1],by rw[a2];rfl,fun j o' hj=> ?_⟩
  cases j with
  |zero=>
   simp only[List.getElem?_cons_zero,Option.some.injEq]at hj;subst hj
   refine⟨s,rfl,h1,fun d hd=> ?_,fun k want hgk=> ?_⟩
   ·rw[hd]at hc2;simpa[zJl]using hc2
   ·rw[hgk]at hc1
    simp only[zvR,List.any_eq_true,Bool.and_eq_true,beq_iff_eq]at hc1
    obtain⟨⟨t,k'⟩,_,_,h9⟩:=hc1
    exact⟨t,h9⟩
  |succ j=>
   simp only[List.getElem?_cons_succ]at hj
   obtain⟨so,b1,b2,b3,b4⟩:=a3 j o' hj
   exact⟨so,by simpa using b1,b2,b3,b4⟩
theorem zlG:∀(a b:List Oper) (i:Nat) (wr:List (Nat×Nat)),adv (a++b) i wr=adv b (i+a.length) (adv a i wr)
 |[],b,i,wr=>rfl
 |o::a,b,i,wr=>by
  simp only[List.cons_append,adv,List.length_cons]
  rw[zlG a b]
  congr 1;omega
theorem zfw {ops:Array Oper}:∀(j:Nat),j≤ops.size→∀t,(adv (ops.toList.take j) 0 []).lookup t=cur ops (List.range j).reverse t
 |0,_,t=>by simp[adv,cur]
 |j+1,hj,t=>by
  have hlt:j<ops.toList.length:=by rw[Array.length_toList];omega
  have ih:=zfw (ops:=ops) j (by omega) t
  rw[List.take_succ_eq_append_getElem hlt,zlG]
  have hlen:(ops.toList.take j).length=j:=by simp;omega
  rw[hlen,Nat.zero_add]
  have hdst:dstOf ops j=ops.toList[j].dst:=by
   have:j<ops.size:=by omega
   simp[dstOf,this]
  rw[List.range_succ,List.reverse_append,List.reverse_singleton,List.singleton_append]
  simp only[adv,zNP]
  unfold cur
  rw[List.find?_cons,hdst]
  cases hd:ops.toList[j].dst with
  |none=>
   have h0:(none==some t)=false:=rfl
   rw[h0]
   exact ih
  |some d=>
   simp only[List.lookup_cons]
   by_cases htd:t=d
   ·subst htd;simp
   ·have h1:(t==d)=false:=by simpa using htd
    have h2:(some d==some t)=false:=by simp;exact Ne.symm htd
    rw[h1,h2]
    exact ih
theorem zeh {ops:Array Oper} {done:List Nat} {t k:Nat} (h:cur ops done t=some k):k∈done∧dstOf ops k=some t:=by
 unfold cur at h
 exact⟨List.mem_of_find?_eq_some h,by have:=List.find?_some h;simpa using this⟩
theorem zrZ {ops:Array Oper} {done:List Nat} {t:Nat} (h:∀k∈done,dstOf ops k≠some t):cur ops done t=none:=by
 unfold cur
 rw[List.find?_eq_none]
 intro k hk
 simpa using h k hk
theorem zxv {U:Nat→Bool} {nt:Nat} {ops:Array Oper} {sops:List (SOp×Option (Nat×Bool))} {wf:List (Nat×Nat)} (h:zgM P U nt ops.toList 0 []=some (sops,wf)):
 ∀x i y,List.range ops.size=x++i::y→Fits P U nt ops sops i (x.reverse++[]):=by
 intro x i y hx
 obtain⟨a1,a2,a3⟩:=zfS _ _ _ _ _ h
 have hxi:x=List.range i∧i<ops.size:=by
  have hlen:=congrArg List.length hx
  simp at hlen
  have h1:(List.range ops.size)[x.length]? =some i:=by rw[hx];simp
  have h2:x.length<ops.size:=by omega
  rw[List.getElem?_range h2]at h1
  simp only[Option.some.injEq]at h1
  refine⟨?_,by omega⟩
  have h3:=congrArg (List.take x.length) hx
  rw[List.take_left,List.take_range]at h3
  rw[←h3,←h1];congr 1;omega
 obtain⟨rfl,hi⟩:=hxi
 have hio:ops[i]? =some ops[i]:=Array.getElem?_eq_getElem hi
 obtain⟨so,b1,b2,b3,b4⟩:=a3 i ops[i] (by simpa using hio)
 have hdn:∀k t,dstOf ops k=some t→t<nt:=fun k t hk=>by
  unfold dstOf at hk
  cases hok:ops[k]? with
  |none=>rw[hok]at hk;cases hk
  |some o=>
   rw[hok]at hk
   exact(a3 k o (by simpa using hok)).elim fun s hs=>hs.2.2.1 t hk
 refine⟨ops[i],so,_,hio,b1,b2,b3,fun t k hl _=> ?_,fun t hl _=> ?_,fun j want hg=> ?_⟩
 ·rw[zfw i (by omega)]at hl
  exact⟨hdn k t (zeh hl).2,by simpa using hl⟩
 ·rw[zfw i (by omega)]at hl;simpa using hl
 ·obtain⟨t,hl⟩:=b4 j want hg
  rw[zfw i (by omega)]at hl
  exact⟨t,hdn j t (zeh hl).2,(zeh hl).2,by simpa using hl⟩
theorem zdn {α:Type} {l:List α} {i:Nat} {x:α} (h:l[i]? =some x):(x,i)∈l.zipIdx:=by
 rw[List.mem_zipIdx_iff_getElem?];exact h
theorem zow {ops:Array Oper} {sops:List (SOp×Option (Nat×Bool))} (h:zrN (Region.before ops) ops.toList sops=true):
 (∀i j d,dstOf ops i=some d→dstOf ops j=some d→i=j)∧Later ops∧
 ∀(i:Nat) so g,sops[i]? =some (so,g)→(∀j,.l j∈so.opds→((Region.before ops).getD i 0).testBit j=true)∧(∀t,.r t∈so.opds→∀j,dstOf ops j=some t→j=i∨((Region.before ops).getD j 0).testBit i=true)∧
  ∀j want,g=some (j,want)→((Region.before ops).getD i 0).testBit j=true:=by
 unfold zrN at h
 simp only[Bool.and_eq_true]at h
 obtain⟨⟨h1,h2⟩,h3⟩:=h
 have hws:∀i d,dstOf ops i=some d→(d,i)∈(ops.toList.zipIdx.filterMap fun(o,i)=>o.dst.map fun d=>(d,i)):=by
  intro i d hd
  unfold dstOf at hd
  cases ho:ops[i]? with
  |none=>rw[ho]at hd;cases hd
  |some o=>
   rw[ho]at hd
   rw[List.mem_filterMap]
   exact⟨(o,i),zdn (by simpa using ho),by simp only[Option.bind_some]at hd;simp[hd]⟩
 refine⟨fun i j d hi hj=> ?_,fun i o ho e he hb=> ?_,fun i so g hi=> ?_⟩
 ·rw[List.all_eq_true]at h1
  have:=h1 _ (hws i d hi)
  simp only[List.all_eq_true]at this
  have:=this _ (hws j d hj)
  simpa using this
 ·rw[List.all_eq_true]at h2
  have:=h2 (o,i) (zdn (by simpa using ho))
  simp only at this
  rw[←Array.all_toList,List.all_eq_true]at this
  have:=this e he
  rw[hb]at this
  simpa using this
 ·rw[List.all_eq_true]at h3
  have:=h3 ((so,g),i) (zdn hi)
  simp only[Bool.and_eq_true,List.all_eq_true]at this
  obtain⟨a1,a2⟩:=this
  refine⟨fun j hj=>a1 _ hj,fun t ht j hj=> ?_,fun j want hg=> ?_⟩
  ·have:=a1 _ ht
   simp only[List.all_eq_true]at this
   have:=this _ (hws j t hj)
   simpa using this
  ·subst hg;exact a2
theorem zuc {U:Nat→Bool} {nt:Nat} {ops:Array Oper} {sops:List (SOp×Option (Nat×Bool))} {wf:List (Nat×Nat)} (h:zgM P U nt ops.toList 0 []=some (sops,wf)) (hd:zrN (Region.before ops) ops.toList sops=true)
 {l:List Nat} (hp:l.Perm (List.range ops.size)) (ha:∀x a y,l=x++a::y→∀o,ops[a]? =some o→∀e∈o.after.toList,Region.binds .any e=true→e.on∈x):
 ∀x i y,l=x++i::y→Fits P U nt ops sops i (x.reverse++[]):=by
 intro x i y hx
 obtain⟨a1,a2,a3⟩:=zfS _ _ _ _ _ h
 obtain⟨d1,d2,d3⟩:=zow hd
 have hah:=fun(a:Nat)=>ahead ha (a+1) a (Nat.lt_succ_self a)
 have hnd:l.Nodup:=hp.symm.nodup List.nodup_range
 have hi:i<ops.size:=List.mem_range.1 (hp.subset (by rw[hx];simp))
 have hio:ops[i]? =some ops[i]:=Array.getElem?_eq_getElem hi
 obtain⟨so,b1,b2,b3,b4⟩:=a3 i ops[i] (by simpa using hio)
 obtain⟨c1,c2,c3⟩:=d3 i so _ b1
 have hdn:∀k t,dstOf ops k=some t→t<nt:=fun k t hk=>by
  unfold dstOf at hk
  cases hok:ops[k]? with
  |none=>rw[hok]at hk;cases hk
  |some o=>
   rw[hok]at hk
   exact(a3 k o (by simpa using hok)).elim fun s hs=>hs.2.2.1 t hk
 have uniq:∀k t,k∈x→dstOf ops k=some t→cur ops (x.reverse++[]) t=some k:=fun k t hk hkt=>by
  cases hc:cur ops (x.reverse++[]) t with
  |none=>
   unfold cur at hc
   rw[List.find?_eq_none]at hc
   have:=hc k (by simpa using hk)
   rw[hkt]at this;simp at this
  |some k'=>rw[d1 k' k t (zeh hc).2 hkt]
 refine⟨ops[i],so,_,hio,b1,b2,b3,fun t k hl hk=> ?_,fun t hl ht=> ?_,fun j want hg=> ?_⟩
 ·rw[zfw i (by omega)]at hl
  have hkt:=(zeh hl).2
  exact⟨hdn k t hkt,uniq k t (hah i k x y hx (c1 k hk)) hkt⟩
 ·refine zrZ fun k hk hkt=> ?_
  have hk':k∈x:=by simpa using hk
  rcases c2 t ht k hkt with rfl|hb
  ·rw[hx]at hnd
   exact(List.nodup_append.1 hnd).2.2 k hk' k (by simp) rfl
  ·obtain⟨x1,x2,rfl⟩:=List.append_of_mem hk'
   have hix:i∈x1:=hah k i x1 (x2++i::y) (by rw[hx];simp) hb
   rw[hx]at hnd
   exact(List.nodup_append.1 hnd).2.2 i (by simp[hix]) i (by simp) rfl
 ·obtain⟨t,hl⟩:=b4 j want hg
  rw[zfw i (by omega)]at hl
  have hjt:=(zeh hl).2
  exact⟨t,hdn j t hjt,hjt,uniq j t (hah i j x y hx (c3 j want hg)) hjt⟩
end Go.AI
namespace Go.AI
variable {P:Program} {sh:FuncId→Bool} {T:Tabs} {κ:Ctx T} {φ φ':Place} {H H':Heap} {w w' w'':World} {S S':Nat→Nat→Prop}
def zqy (U:Nat→Bool) (acc:List (Nat×Nat)) (x:Nat×Nat):List (Nat×Nat):=if U x.1&& !acc.any (fun y=>y.1==x.1)then x::acc else acc
theorem zqz (U:Nat→Bool) (wr:List (Nat×Nat)):zdl U wr=wr.foldl (zqy U) []:=rfl
theorem zhq {U:Nat→Bool}:∀(wr p acc:List (Nat×Nat)),(∀t i,(t,i)∈acc↔U t=true∧p.lookup t=some i)→∀t i,(t,i)∈wr.foldl (zqy U) acc↔U t=true∧(p++wr).lookup t=some i
 |[],p,acc,h,t,i=>by simpa using h t i
 |(d,k)::wr,p,acc,h,t,i=>by
  rw[List.foldl_cons]
  have hp:p++(d,k)::wr=(p++[(d,k)])++wr:=by simp
  rw[hp]
  refine zhq wr (p++[(d,k)]) _ (fun t i=> ?_) t i
  have hlk:(p++[(d,k)]).lookup t=(p.lookup t).or (if t==d then some k else none):=by
   rw[List.lookup_append]
   congr 1
   simp only[List.lookup_cons,List.lookup_nil]
   cases(t==d)<;>rfl
  rw[hlk]
  have hany:acc.any (fun y=>y.1==d)=true↔U d=true∧(p.lookup d).isSome=true:=by
   rw[List.any_eq_true]
   constructor
   ·rintro⟨⟨a,b⟩,hm,he⟩
    have:a=d:=by simpa using he
    subst this
    obtain⟨h1,h2⟩:=(h a b).1 hm
    exact⟨h1,by rw[h2];rfl⟩
   ·rintro⟨h1,h2⟩
    obtain⟨b,hb⟩:=Option.isSome_iff_exists.1 h2
    exact⟨(d,b),(h d b).2 ⟨h1,hb⟩,by simp⟩
  unfold zqy
  split
  ·rename_i hc
   simp only[Bool.and_eq_true,Bool.not_eq_true']at hc
   have hnl:p.lookup d=none:=by
    cases hl:p.lookup d with
    |none=>rfl
    |some b=>rw[hany.2 ⟨hc.1,by rw[hl];rfl⟩]at hc;exact absurd hc.2 (by simp)
   rw[List.mem_cons,h t i]
   by_cases htd:t=d
   ·subst htd
    rw[hnl]
    simp[hc.1,eq_comm]
   ·have h1:(t==d)=false:=by simpa using htd
    rw[h1]
    simp[htd]
  ·rename_i hc
   rw[h t i]
   by_cases htd:t=d
   ·subst htd
    cases hu:U t with
    |false=>simp
    |true=>
     have:acc.any (fun y=>y.1==t)=true:=by
      simp only[hu,Bool.true_and,Bool.not_eq_true,Bool.not_eq_false']at hc
      exact hc
     obtain⟨b,hb⟩:=Option.isSome_iff_exists.1 (hany.1 this).2
     rw[hb];simp
   ·have h1:(t==d)=false:=by simpa using htd
    rw[h1]
    simp
theorem zei {U:Nat→Bool} {wr:List (Nat×Nat)} {t i:Nat}:(t,i)∈zdl U wr↔U t=true∧wr.lookup t=some i:=by
 rw[zqz]
 have:=zhq (U:=U) wr [] [] (fun t i=>by simp) t i
 simpa using this
theorem zlH {env:Regs} {t:Nat}:∀(outs:List (Nat×Nat)) (r:Regs),(∀i j,(t,i)∈outs→(t,j)∈outs→i=j)→(∀k,(t,k)∈outs→zew env outs r t=env k)∧((∀k,(t,k)∉outs)→zew env outs r t=r t)
 |[],r,_=>⟨fun k h=>by simp at h,fun _=>rfl⟩
 |(d,i)::outs,r,h=>by
  obtain⟨h1,h2⟩:=zlH (t:=t) outs (r.set d (env i)) (fun a b ha hb=>h a b (List.mem_cons_of_mem _ ha) (List.mem_cons_of_mem _ hb))
  simp only[zew]
  constructor
  ·intro k hk
   by_cases hin:∃k',(t,k')∈outs
   ·obtain⟨k',hk'⟩:=hin
    rw[h1 k' hk',h k k' hk (by simp[hk'])]
   ·have hno:∀k,(t,k)∉outs:=fun k hk=>hin ⟨k,hk⟩
    rw[h2 hno]
    rcases List.mem_cons.1 hk with he|hk
    ·simp only[Prod.mk.injEq]at he
     obtain⟨rfl,rfl⟩:=he
     simp[Regs.set]
    ·exact absurd hk (hno k)
  ·intro hno
   rw[h2 (fun k hk=>hno k (by simp[hk]))]
   have:(t==d)=false:=by
    simp only[beq_eq_false_iff_ne]
    intro he;subst he
    exact hno i (by simp)
   simp[Regs.set,this]
theorem RSt.outs {U:Nat→Bool} {nt:Nat} {ops:Array Oper} {env r:Regs} {done:List Nat} {tmps:Array Value} (h:RSt φ w S U nt ops env r done tmps) {wf:List (Nat×Nat)} (hw:∀t,t<nt→wf.lookup t=cur ops done t):
 RR φ w S U nt (zew env (zdl U wf) r) tmps:=by
 refine⟨h.1,fun t hu ht=> ?_⟩
 have hs:=zlH (env:=env) (t:=t) (zdl U wf) r (fun i j hi hj=>by
  have a:=(zei.1 hi).2
  have b:=(zei.1 hj).2
  rw[a]at b;simpa using b)
 have h2:=h.2 t ht
 rw[←hw t ht]at h2
 cases hl:wf.lookup t with
 |some k=>
  rw[hl]at h2
  rw[hs.1 k (zei.2 ⟨hu,hl⟩)]
  exact h2
 |none=>
  rw[hl]at h2
  rw[hs.2 (fun k hk=>by have:=(zei.1 hk).2;rw[hl]at this;cases this)]
  exact h2 hu
theorem RR.start {U:Nat→Bool} {nt:Nat} {ops:Array Oper} {env r:Regs} {tmps:Array Value} (h:RR φ w S U nt r tmps):RSt φ w S U nt ops env r [] tmps:=
 ⟨h.1,fun t ht=>fun hu=>h.2 t hu ht⟩
end Go.AI
namespace Go.AI
def zgw:V→List Nat
 | .sl k _ _=>[k]
 | .ptr b _ _=>[b]
 |_=>[]
def zGf:V→List Nat
 | .sl k _ _=>[k]
 |_=>[]
def zet (sh:FuncId→Bool) (env r:Regs) (fr:Nat):SOp→Option (List Nat)
 | .load _ a| .store _ a _=>some (zgw (opd env r a))
 | .alloc _| .box _| .bslice .. | .mkMap| .mkSlice .. | .rangeS _=>some [fr]
 | .app _ _ a b=>some (fr::(zgw (opd env r a)++zgw (opd env r b)))
 | .iaddr _ x _| .slice _ x .. =>some (zGf (opd env r x))
 | .call f args=>if sh f=false∧(allD (args.map (opd env r))).isSome=true then some []else none
 | .len k _=>if k= .map then none else some []
 | .lookup .. | .mupd .. | .mentry .. | .estore .. | .nextS _| .callv .. | .copy .. | .clear .. =>none
 |_=>some []
theorem zjA {h g:Heap} (h1:∀b,h.get b=g.get b) (h2:h.next=g.next):h=g:=by
 cases h;cases g
 simp only[Heap.mk.injEq]at*
 exact⟨funext h1,h2⟩
def zgR (app:App) (sh:FuncId→Bool) (fr:Nat) (env r:Regs) (so:SOp) (F:List Nat):Prop:=
 ∀(h g h1:Heap) (v:V),(∀b∈F,h.get b=g.get b)→zad app sh fr env r h so=some (v,h1)→
  ∃g1,zad app sh fr env r g so=some (v,g1)∧(∀b∈F,h1.get b=g1.get b)∧(∀b,b∉F→h1.get b=h.get b∧g1.get b=g.get b)∧h1.next=h.next∧g1.next=g.next
theorem zeA {app:App} {sh:FuncId→Bool} {f1 f2:Nat} {env r:Regs} {s1 s2:SOp} {F1 F2:List Nat} (a:zgR app sh f1 env r s1 F1) (b:zgR app sh f2 env r s2 F2) (hd:∀x∈F1,x∉F2) {h h1 h2:Heap} {v1 v2:V}
 (e1:zad app sh f1 env r h s1=some (v1,h1)) (e2:zad app sh f2 env r h1 s2=some (v2,h2)):∃h1',zad app sh f2 env r h s2=some (v2,h1')∧zad app sh f1 env r h1' s1=some (v1,h2):=by
 obtain⟨_,_,_,p3,p4,_⟩:=a h h h1 v1 (fun _ _=>rfl) e1
 obtain⟨k,q1,q2,q3,q4,q5⟩:=b h1 h h2 v2 (fun x hx=>(p3 x (fun hx1=>hd x hx1 hx)).1) e2
 obtain⟨m,t1,t2,t3,t4,t5⟩:=a h k h1 v1 (fun x hx=>((q3 x (hd x hx)).2).symm) e1
 refine⟨k,q1,?_⟩
 have:m=h2:=by
  refine zjA (fun x=> ?_) (by rw[t5,q5,q4,p4])
  by_cases hx1:x∈F1
  ·rw[←t2 x hx1,(q3 x (hd x hx1)).1]
  ·rw[(t3 x hx1).2]
   by_cases hx2:x∈F2
   ·exact(q2 x hx2).symm
   ·rw[(q3 x hx2).2,(q3 x hx2).1,(p3 x hx1).1]
 rw[←this];exact t1
theorem zeB {app:App} {sh:FuncId→Bool} {fr:Nat} {env r:Regs} {so:SOp} {F:List Nat} (f:Heap→Option V) (he:∀h,zad app sh fr env r h so=(f h).map fun v=>(v,h)) (hf:∀h g:Heap,(∀b∈F,h.get b=g.get b)→f h=f g):zgR app sh fr env r so F:=by
 intro h g h1 v hag e
 rw[he]at e
 cases hx:f h with
 |none=>rw[hx]at e;cases e
 |some y=>
  rw[hx]at e
  simp only[Option.map_some,Option.some.injEq,Prod.mk.injEq]at e
  obtain⟨rfl,rfl⟩:=e
  refine⟨g,by rw[he,←hf h g hag,hx];rfl,hag,fun _ _=>⟨rfl,rfl⟩,rfl,rfl⟩
theorem zbe {app:App} {sh:FuncId→Bool} {fr:Nat} {env r:Regs} {so:SOp} {F:List Nat} (x:Option V) (he:∀h,zad app sh fr env r h so=x.map fun v=>(v,h)):zgR app sh fr env r so F:=
 zeB (fun _=>x) he (fun _ _ _=>rfl)
theorem zbN (h:Heap) (b c:Nat) (x:Blk):(h.put b x).get c=if c=b then some x else h.get c:=by
 simp only[Heap.put,Heap.set]
 by_cases hc:c=b
 ·subst hc;simp
 ·have:(c==b)=false:=by simpa using hc
  rw[this];simp[hc]
theorem zdG {app:App} {sh:FuncId→Bool} {fr:Nat} {env r:Regs} {so:SOp} {F:List Nat} (b:Nat) (hb:b∈F) (f:Heap→Option (V×Blk)) (he:∀h,zad app sh fr env r h so=(f h).map fun v=>(v.1,h.put b v.2))
 (hf:∀h g:Heap,(∀b∈F,h.get b=g.get b)→f h=f g):zgR app sh fr env r so F:=by
 intro h g h1 v hag e
 rw[he]at e
 cases hx:f h with
 |none=>rw[hx]at e;cases e
 |some y=>
  rw[hx]at e
  simp only[Option.map_some,Option.some.injEq,Prod.mk.injEq]at e
  obtain⟨rfl,rfl⟩:=e
  refine⟨g.put b y.2,by rw[he,←hf h g hag,hx];rfl,fun c hc=> ?_,fun c hc=> ?_,rfl,rfl⟩
  ·rw[zbN,zbN,hag c hc]
  ·have:c≠b:=fun h=>hc (h▸hb)
   rw[zbN,zbN,if_neg this,if_neg this];exact⟨rfl,rfl⟩
def zox (h:Heap) (n:Nat):V→V→Option Blk
 | .ptr b i off,v=>match h.get b with
  |some (.els z l fz)=>if fz≤i then(l[i]?).bind fun e=>(e.upd off n v).map fun e=> .els z (l.set i e) fz else none
  |_=>none
 |_,_=>none
theorem zxw {h:Heap} {n b i off:Nat} {v:V}:zbK h n (.ptr b i off) v=(zox h n (.ptr b i off) v).map fun y=>h.put b y:=by
 simp only[zbK,zox]
 cases h.get b with
 |none=>rfl
 |some y=>
  cases y with
  |els z l fz=>
   dsimp only
   split
   ·cases l[i]? with
    |none=>rfl
    |some e=>simp only[Option.bind_some];cases V.upd e off n v<;>rfl
   ·rfl
  |_=>rfl
theorem zqA {h g:Heap} {x:V} (hag:∀b∈zgw x,h.get b=g.get b):zbC h x=zbC g x:=by
 cases x with
 |sl b o n=>simp only[zbC,hag b (by simp[zgw])]
 |d x=>cases x<;>rfl
 |_=>rfl
theorem zcl {app:App} {sh:FuncId→Bool} {fr:Nat} {env r:Regs} {so:SOp} {F:List Nat} (hb:zet sh env r fr so=some F):zgR app sh fr env r so F:=by
 have bm:∀{α:Type} {x:Option α} {f:α→V} {h:Heap},x.map (fun v=>(f v,h))=(x.map f).map fun v=>(v,h):=by
  intro α x f h;cases x<;>rfl
 cases so with
 |load n a=>
  simp only[zet,Option.some.injEq]at hb;subst hb
  refine zeB (fun h=>zdA h n (opd env r a)) (fun h=>rfl) fun h g hag=> ?_
  generalize opd env r a=x at hag
  cases x<;>first|rfl|(simp only[zdA];rw[hag _ (by simp[zgw])])
 |store n a x=>
  simp only[zet,Option.some.injEq]at hb;subst hb
  cases hx:opd env r a with
  |ptr b i off=>
   refine zdG b (by simp[zgw]) (fun h=>(zox h n (.ptr b i off) (opd env r x)).map fun y=>(.undef,y)) (fun h=> ?_) fun h g hag=> ?_
   ·simp only[zad,hx,zxw]
    cases zox h n (.ptr b i off) (opd env r x)<;>rfl
   ·simp only[zox,hag b (by simp[zgw])]
  |_=>intro h g h1 v hag e;simp[zad,hx,zbK]at e
 |alloc z=>
  simp only[zet,Option.some.injEq]at hb;subst hb
  exact zdG fr (by simp) (fun _=>some (.ptr fr 0 0,.els z.cells.length [.d z] 0)) (fun h=>rfl) (fun _ _ _=>rfl)
 |box x=>
  simp only[zet,Option.some.injEq]at hb;subst hb
  refine zdG fr (by simp) (fun _=>(boxed (opd env r x)).map fun b=>(.ptr fr 0 0,b)) (fun h=> ?_) (fun _ _ _=>rfl)
  simp only[zad];cases boxed (opd env r x)<;>rfl
 |bslice n z ps=>
  simp only[zet,Option.some.injEq]at hb;subst hb
  refine zdG fr (by simp) (fun _=>(zaS z.cells.length (List.replicate n (.d z)) (ps.map fun(i,x)=>(i,opd env r x))).map fun l=>(.sl fr 0 n,.els z.cells.length l 0)) (fun h=> ?_) (fun _ _ _=>rfl)
  simp only[zad];cases zaS z.cells.length (List.replicate n (V.d z)) (ps.map fun(i,x)=>(i,opd env r x))<;>rfl
 |mkMap=>
  simp only[zet,Option.some.injEq]at hb;subst hb
  exact zdG fr (by simp) (fun _=>some (.map fr,.map [] 0)) (fun h=>rfl) (fun _ _ _=>rfl)
 |mkSlice z bytes l c=>
  simp only[zet,Option.some.injEq]at hb;subst hb
  refine zdG fr (by simp) (fun _=>(asNat (opd env r l)).bind fun l=>(asNat (opd env r c)).bind fun c=>if l≤c∧c*bytes≤roomBytes then some (.sl fr 0 l,.els z.cells.length (List.replicate l (.d z)) 0)else none) (fun h=> ?_) (fun _ _ _=>rfl)
  simp only[zad]
  cases asNat (opd env r l)with
  |none=>rfl
  |some l'=>
   cases asNat (opd env r c)with
   |none=>rfl
   |some c'=>simp only[Option.bind_some];split<;>rfl
 |rangeS x=>
  simp only[zet,Option.some.injEq]at hb;subst hb
  refine zdG fr (by simp) (fun _=>match opd env r x with| .d (.str s)=>some (.it fr,.it s 0)|_=>none) (fun h=> ?_) (fun _ _ _=>rfl)
  simp only[zad]
  generalize opd env r x=y
  cases y with
  |d y=>cases y<;>rfl
  |_=>rfl
 |move x=>exact zbe (some (opd env r x)) fun h=>rfl
 |nilCheck x=>
  refine zbe (match isNil (opd env r x)with|some false=>some (opd env r x)|_=>none) fun h=> ?_
  simp only[zad]
  split<;>simp_all
 |bin op ty x y=>exact zbe (binV op ty (opd env r x) (opd env r y)) fun h=>rfl
 |un op x=>exact zbe (unV op (opd env r x)) fun h=>rfl
 |conv k x=>exact zbe (convV k (opd env r x)) fun h=>rfl
 |field off n x=>exact zbe (V.fld off n (opd env r x)) fun h=>rfl
 |extract x i=>exact zbe (extractV i (opd env r x)) fun h=>rfl
 |mx a=>exact zbe (maxV (a.map (opd env r))) fun h=>rfl
 |mn a=>exact zbe (minV (a.map (opd env r))) fun h=>rfl
 |pick c a b=>
  refine zbe (match opd env r c with| .d (.bool t)=>some (if t then opd env r a else opd env r b)|_=>none) fun h=> ?_
  simp only[zad]
  generalize opd env r c=y
  cases y with
  |d y=>cases y<;>rfl
  |_=>rfl
 |build z ps=>
  refine zbe ((zca (z.map .d) (ps.map fun(o,n,x)=>(o,n,opd env r x))).map V.ofCells) fun h=> ?_
  simp only[zad];cases zca (z.map .d) (ps.map fun(o,n,x)=>(o,n,opd env r x))<;>rfl
 |mkFunc f first cap=>
  refine zbe (some (if first.isEmpty&&cap.isEmpty then .d (.fn f)else .clo f (first.map (opd env r)) (cap.map (opd env r)))) fun h=> ?_
  simp only[zad];split<;>rfl
 |faddr off x=>
  refine zbe (match opd env r x with| .ptr b i o=>some (.ptr b i (o+off))| .rp y o=>some (.rp y (o+off))|_=>none) fun h=> ?_
  simp only[zad]
  generalize opd env r x=y
  cases y<;>rfl
 |aaddr len sz x i=>
  refine zbe ((asNat (opd env r i)).bind fun i=>if i<len then(match opd env r x with| .ptr b k o=>some (.ptr b k (o+i*sz))| .rp y o=>some (.rp y (o+i*sz))|_=>none)else none) fun h=> ?_
  simp only[zad]
  cases asNat (opd env r i)with
  |none=>rfl
  |some i=>
   simp only[Option.bind_some]
   split
   ·generalize opd env r x=y
    cases y<;>rfl
   ·rfl
 |index x i=>
  refine zbe ((asNat (opd env r i)).bind fun i=>match opd env r x with| .d (.str s)=>(s[i]?).map fun c=> .d (.int .u8 c.toNat)|_=>none) fun h=> ?_
  simp only[zad]
  cases asNat (opd env r i)with
  |none=>rfl
  |some i=>
   simp only[Option.bind_some]
   generalize opd env r x=y
   cases y with
   |d y=>
    cases y with
    |str s=>dsimp only;cases s[i]? <;>rfl
    |_=>rfl
   |_=>rfl
 |aindex len sz n x i=>
  refine zbe ((asNat (opd env r i)).bind fun i=>if i<len then V.fld (i*sz) n (opd env r x)else none) fun h=> ?_
  simp only[zad]
  cases asNat (opd env r i)with
  |none=>rfl
  |some i=>simp only[Option.bind_some];split<;>first|rfl|(cases V.fld (i*sz) n (opd env r x)<;>rfl)
 |len k x=>
  simp only[zet]at hb
  split at hb
  ·cases hb
  ·rename_i hk
   refine zeB (fun h=>(zlv h k (opd env r x)).map fun(n:Nat)=> .d (.int .i64 (n:Int))) (fun h=> ?_) fun h g _=> ?_
   ·simp only[zad];cases zlv h k (opd env r x)<;>rfl
   ·cases k with
    |map=>exact absurd rfl hk
    |sl=>generalize opd env r x=y;cases y with
     |d y=>cases y<;>rfl
     |_=>rfl
    |str=>generalize opd env r x=y;cases y with
     |d y=>cases y<;>rfl
     |_=>rfl
 |iaddr sz x i=>
  simp only[zet,Option.some.injEq]at hb;subst hb
  refine zeB (fun h=>(asNat (opd env r i)).bind fun i=>zbO h sz (opd env r x) i) (fun h=> ?_) fun h g hag=> ?_
  ·simp only[zad];cases asNat (opd env r i)<;>rfl
  ·cases asNat (opd env r i)with
   |none=>rfl
   |some i=>
    simp only[Option.bind_some]
    generalize opd env r x=y at hag
    cases y with
    |sl b o n=>simp only[zbO,hag b (by simp[zGf])]
    |d y=>cases y<;>rfl
    |_=>rfl
 |slice sz x lo hi mx=>
  simp only[zet,Option.some.injEq]at hb;subst hb
  refine zeB (fun h=>(zby (lo.map (opd env r))).bind fun lo=>(zby (hi.map (opd env r))).bind fun hi=>(zby (mx.map (opd env r))).bind fun mx=>zbx h sz (opd env r x) lo hi mx) (fun h=> ?_) fun h g hag=> ?_
  ·simp only[zad];cases zby (lo.map (opd env r))<;>cases zby (hi.map (opd env r))<;>cases zby (mx.map (opd env r))<;>rfl
  ·cases zby (lo.map (opd env r))with
   |none=>rfl
   |some lo=>
    cases zby (hi.map (opd env r))with
    |none=>rfl
    |some hi=>
     cases zby (mx.map (opd env r))with
     |none=>rfl
     |some mx=>
      simp only[Option.bind_some]
      generalize opd env r x=y at hag
      cases y with
      |sl b o n=>cases mx<;>simp only[zbx,hag b (by simp[zGf])]
      |d y=>cases y<;>cases mx<;>rfl
      |_=>rfl
 |call f args=>
  simp only[zet]at hb
  split at hb
  ·rename_i hc
   obtain⟨ds,hds⟩:=Option.isSome_iff_exists.1 hc.2
   refine zbe ((app (.d (.fn f)) (ds.map .d) Heap.empty).bind fun(v,h2)=>(res 8 h2 v).map fun(x,_)=> .d x) fun h=> ?_
   simp only[zad]
   rw[if_neg (by rw[hc.1];simp)]
   simp only[zba,hds,Option.bind_some]
   cases app (.d (.fn f)) (ds.map .d) Heap.empty with
   |none=>rfl
   |some p=>simp only[Option.bind_some];cases res 8 p.2 p.1<;>rfl
  ·cases hb
 |app sz bytes a b=>
  simp only[zet,Option.some.injEq]at hb;subst hb
  intro h g h1 v hag e
  simp only[zad]at e⊢
  generalize opd env r a=x at hag e⊢
  generalize opd env r b=y at hag e⊢
  have hel:zbC h y=zbC g y:=zqA fun c hc=>hag c (by simp[hc])
  unfold zlw at e⊢
  rw[←hel]
  cases hn:zbC h y with
  |none=>rw[hn]at e;cases e
  |some new=>
   rw[hn]at e
   simp only[Option.bind_some]at e⊢
   split at e
   ·rename_i hem
    rw[if_pos hem]
    split at e
    case isFalse=>cases e
    rename_i hsl
    rw[if_pos hsl]
    simp only[Option.some.injEq,Prod.mk.injEq]at e
    obtain⟨rfl,rfl⟩:=e
    exact⟨g,rfl,hag,fun _ _=>⟨rfl,rfl⟩,rfl,rfl⟩
   ·rename_i hem
    rw[if_neg hem]
    split at e
    case isFalse=>cases e
    rename_i hsz
    rw[if_pos hsz]
    split at e
    ·split at e
     case isFalse=>cases e
     rename_i hroom
     simp only[Option.some.injEq,Prod.mk.injEq]at e
     obtain⟨rfl,rfl⟩:=e
     refine⟨g.put fr (.els sz new 0),by simp only[if_pos hroom],fun c hc=> ?_,fun c hc=> ?_,rfl,rfl⟩
     ·rw[zbN,zbN,hag c hc]
     ·have:c≠fr:=fun h=>hc (by simp[h])
      rw[zbN,zbN,if_neg this,if_neg this];exact⟨rfl,rfl⟩
    ·rename_i k len
     have hk:h.get k=g.get k:=hag k (by simp[zgw])
     cases hh:h.get k with
     |none=>rw[hh]at e;simp at e
     |some yb=>
      rw[hh]at e
      cases yb with
      |els z l fz=>
       simp only at e
       split at e
       case isFalse=>cases e
       rename_i hc
       simp only[Option.some.injEq,Prod.mk.injEq]at e
       obtain⟨rfl,rfl⟩:=e
       have hdel:∀(h:Heap) c,c≠k→(h.del k).get c=h.get c:=fun h c hck=>by
        have:(c==k)=false:=by simpa using hck
        simp[Heap.del,Heap.set,this]
       refine⟨(g.del k).put fr (.els z (l++new) fz),by simp only[←hk,hh,if_pos hc],fun c hcF=> ?_,fun c hcF=> ?_,rfl,rfl⟩
       ·rw[zbN,zbN]
        split
        ·rfl
        ·by_cases hck:c=k
         ·subst hck;simp[Heap.del,Heap.set]
         ·rw[hdel h c hck,hdel g c hck,hag c hcF]
       ·have h1:c≠fr:=fun h=>hcF (by simp[h])
        have h2:c≠k:=fun h=>hcF (by simp[h,zgw])
        rw[zbN,zbN,if_neg h1,if_neg h1,hdel h c h2,hdel g c h2];exact⟨rfl,rfl⟩
      |_=>simp at e
    ·cases e
 |_=>simp[zet]at hb
theorem zdr {α:Type} {cs new:List α} {off:Nat} (h:off+new.length≤cs.length):(splice cs off new).length=cs.length:=by
 simp[splice];omega
theorem zdH {α:Type} {cs new:List α} {off:Nat} (h:off+new.length≤cs.length) (o:Nat):(splice cs off new)[o]? =if off≤o∧o<off+new.length then new[o-off]? else cs[o]? :=by
 unfold splice
 have h1:(cs.take off).length=off:=by simp;omega
 by_cases ho:o<off
 ·rw[if_neg (by omega),List.append_assoc,List.getElem?_append_left (by omega),List.getElem?_take,if_pos ho]
 ·by_cases hn:o<off+new.length
  ·rw[if_pos (by omega),List.append_assoc,List.getElem?_append_right (by omega),h1,List.getElem?_append_left (by omega)]
  ·rw[if_neg (by omega),List.append_assoc,List.getElem?_append_right (by omega),h1,List.getElem?_append_right (by omega),List.getElem?_drop]
   congr 1;omega
theorem zqB {α:Type} {cs a b:List α} {o p:Nat} (h1:o+a.length≤cs.length) (h2:p+b.length≤cs.length) (hd:o+a.length≤p∨p+b.length≤o):splice (splice cs o a) p b=splice (splice cs p b) o a:=by
 apply List.ext_getElem?
 intro k
 rw[zdH (by rw[zdr h1];exact h2),zdH h1,zdH (by rw[zdr h2];exact h1),zdH h2]
 split<;>split<;>first|rfl|omega
theorem zjB {e v e1:V} {o n:Nat} (h:e.upd o n v=some e1):v.cells.length=n∧0<n∧o+n≤e.cells.length∧v.cells.all V.one=true∧e1=V.like e (splice e.cells o v.cells)∧e1.cells=splice e.cells o v.cells:=by
 unfold V.upd at h
 split at h
 case isFalse=>cases h
 rename_i hc
 obtain⟨h1,h2,h3,h4⟩:=hc
 simp only[Option.some.injEq]at h
 refine⟨h1,h2,h3,h4,h.symm,?_⟩
 rw[←h]
 refine zlA (zdr (by omega)) fun x hx=> ?_
 obtain⟨k,hk⟩:=List.mem_iff_getElem?.1 hx
 rw[zdH (by omega)]at hk
 split at hk
 ·exact .inl (by rw[List.all_eq_true]at h4;exact h4 x (List.mem_of_getElem? hk))
 ·exact .inr (List.mem_of_getElem? hk)
theorem zoy {e:V} {a b:List V} (hl:2≤e.cells.length):V.like (V.like e a) b=V.like e b:=by
 have key:V.like (V.ofCells a) b=V.ofCells b:=by
  unfold V.ofCells
  cases allD a<;>rfl
 cases e with
 |agg=>exact key
 |d x=>
  cases x with
  |agg=>exact key
  |_=>simp[V.cells,D.cells]at hl
 |undef=>simp[V.cells]at hl
 |_=>simp[V.cells]at hl
theorem zBZ {e v u e1 e2:V} {o n p m:Nat} (h1:e.upd o n v=some e1) (h2:e1.upd p m u=some e2) (hd:o+n≤p∨p+m≤o):∃e1',e.upd p m u=some e1'∧e1'.upd o n v=some e2:=by
 obtain⟨a1,a2,a3,a4,a5,a6⟩:=zjB h1
 obtain⟨b1,b2,b3,b4,b5,b6⟩:=zjB h2
 rw[a6,zdr (by omega)]at b3
 have hl:2≤e.cells.length:=by omega
 have e1':e.upd p m u=some (V.like e (splice e.cells p u.cells)):=by
  unfold V.upd;rw[if_pos ⟨b1,b2,b3,b4⟩]
 obtain⟨_,_,_,_,_,c6⟩:=zjB e1'
 refine⟨_,e1',?_⟩
 unfold V.upd
 rw[c6,if_pos ⟨a1,a2,by rw[zdr (by omega)];exact a3,a4⟩]
 rw[zoy hl,b5,a6,a5,zoy hl,zqB (by omega) (by omega) (by omega)]
theorem zGg {e v e1:V} {o n p:Nat} {m:Option Nat} (h:e.upd o n v=some e1) (hd:o+n≤p∨p+m.getD 1≤o):e1.sub p m=e.sub p m:=by
 obtain⟨a1,a2,a3,a4,a5,a6⟩:=zjB h
 cases m with
 |none=>
  simp only[V.sub,a6]
  rw[zdH (by omega),if_neg (by simp at hd;omega)]
 |some k=>
  simp only[V.sub,a6,zdr (show o+v.cells.length≤e.cells.length by omega)]
  simp only[Option.getD_some]at hd
  split
  ·congr 2
   apply List.ext_getElem?
   intro i
   rw[List.getElem?_take,List.getElem?_take]
   split
   ·rw[List.getElem?_drop,List.getElem?_drop,zdH (by omega),if_neg (by omega)]
   ·rfl
  ·rfl
theorem zdI {h h1:Heap} {n b i o:Nat} {v:V} (hs:zbK h n (.ptr b i o) v=some h1):∃z l fz e e1,h.get b=some (.els z l fz)∧fz≤i∧l[i]? =some e∧e.upd o n v=some e1∧h1=h.put b (.els z (l.set i e1) fz):=by
 simp only[zbK]at hs
 split at hs
 ·rename_i z l fz hb
  split at hs
  ·rename_i hf
   obtain⟨e,he,hs⟩:=Option.bind_eq_some_iff.1 hs
   obtain⟨e1,hu,hs⟩:=Option.map_eq_some_iff.1 hs
   exact⟨z,l,fz,e,e1,hb,hf,he,hu,hs.symm⟩
  ·cases hs
 ·cases hs
theorem zhr {h:Heap} {n b i o z fz:Nat} {l:List V} {v e e1:V} (hb:h.get b=some (.els z l fz)) (hf:fz≤i) (he:l[i]? =some e) (hu:e.upd o n v=some e1):zbK h n (.ptr b i o) v=some (h.put b (.els z (l.set i e1) fz)):=by
 simp only[zbK,hb,if_pos hf,he,Option.bind_some,hu,Option.map_some]
theorem zlI {h h1:Heap} {n b i o i' p:Nat} {m:Option Nat} {v:V} (hs:zbK h n (.ptr b i o) v=some h1) (hd:i≠i'∨o+n≤p∨p+m.getD 1≤o):zdA h1 m (.ptr b i' p)=zdA h m (.ptr b i' p):=by
 obtain⟨z,l,fz,e,e1,hb,hf,he,hu,rfl⟩:=zdI hs
 simp only[zdA,zbN,if_true,hb]
 by_cases hii:i=i'
 ·subst hii
  have hl:i<l.length:=by
   rcases Nat.lt_or_ge i l.length with h|h
   ·exact h
   ·rw[List.getElem?_eq_none h]at he;cases he
  rw[List.getElem?_set_self hl,he]
  simp only[Option.bind_some]
  exact zGg hu (hd.resolve_left (fun h=>h rfl))
 ·rw[List.getElem?_set_ne hii]
theorem zqC (h:Heap) (b:Nat) (x y:Blk):(h.put b x).put b y=h.put b y:=by
 refine zjA (fun c=> ?_) rfl
 simp only[zbN]
 split<;>rfl
theorem zqD {h h1 h2:Heap} {n m b i o i' p:Nat} {v u:V} (e1:zbK h n (.ptr b i o) v=some h1) (e2:zbK h1 m (.ptr b i' p) u=some h2) (hd:i≠i'∨o+n≤p∨p+m≤o):
 ∃h1',zbK h m (.ptr b i' p) u=some h1'∧zbK h1' n (.ptr b i o) v=some h2:=by
 obtain⟨z,l,fz,x,x1,hb,hf,hx,hu,rfl⟩:=zdI e1
 obtain⟨z',l',fz',y,y1,hb',hf',hy,hu',rfl⟩:=zdI e2
 rw[zbN,if_pos rfl]at hb'
 simp only[Option.some.injEq,Blk.els.injEq]at hb'
 obtain⟨rfl,rfl,rfl⟩:=hb'
 rw[zqC]
 by_cases hii:i=i'
 ·subst hii
  have hl:i<l.length:=by
   rcases Nat.lt_or_ge i l.length with h|h
   ·exact h
   ·rw[List.getElem?_eq_none h]at hx;cases hx
  rw[List.getElem?_set_self hl]at hy
  simp only[Option.some.injEq]at hy;subst hy
  obtain⟨w,w1,w2⟩:=zBZ hu hu' (hd.resolve_left (fun h=>h rfl))
  refine⟨_,zhr hb hf' hx w1,?_⟩
  rw[zhr (h:=h.put b (.els z (l.set i w) fz)) (by rw[zbN,if_pos rfl]) hf (List.getElem?_set_self hl) w2,zqC]
  simp[List.set_set]
 ·rw[List.getElem?_set_ne hii]at hy
  refine⟨_,zhr hb hf' hy hu',?_⟩
  have hx':(l.set i' y1)[i]? =some x:=by rw[List.getElem?_set_ne (Ne.symm hii)];exact hx
  rw[zhr (h:=h.put b (.els z (l.set i' y1) fz)) (by rw[zbN,if_pos rfl]) hf hx' hu,zqC,List.set_comm _ _ hii]
theorem zqE {h h1:Heap} {n b i o sz k:Nat} {v x:V} (hs:zbK h n (.ptr b i o) v=some h1):zbO h1 sz x k=zbO h sz x k:=by
 obtain⟨z,l,fz,e,e1,hb,hf,he,hu,rfl⟩:=zdI hs
 cases x with
 |sl c q len=>
  simp only[zbO,zbN]
  by_cases hc:c=b
  ·subst hc;rw[if_pos rfl,hb];simp
  ·rw[if_neg hc]
 |d x=>cases x<;>rfl
 |_=>rfl
theorem zqF {h h1:Heap} {n b i o sz:Nat} {v x:V} {lo hi mx:Option Nat} (hs:zbK h n (.ptr b i o) v=some h1):zbx h1 sz x lo hi mx=zbx h sz x lo hi mx:=by
 obtain⟨z,l,fz,e,e1,hb,hf,he,hu,rfl⟩:=zdI hs
 cases x with
 |sl c q len=>
  cases mx with
  |none=>
   simp only[zbx,zbN]
   by_cases hc:c=b
   ·subst hc;rw[if_pos rfl,hb];simp
   ·rw[if_neg hc]
  |some _=>rfl
 |d x=>cases x<;>cases mx<;>rfl
 |_=>rfl
theorem zlJ {app:App} {sh:FuncId→Bool} {fr:Nat} {env r:Regs} {s:SOp} (c:zgR app sh fr env r s []) {h h1:Heap} {v:V} (e:zad app sh fr env r h s=some (v,h1)):h1=h∧∀g,zad app sh fr env r g s=some (v,g):=by
 obtain⟨_,_,_,p3,p4,_⟩:=c h h h1 v (by simp) e
 refine⟨zjA (fun b=>(p3 b (by simp)).1) p4,fun g=> ?_⟩
 obtain⟨g1,q1,_,q3,_,q5⟩:=c h g h1 v (by simp) e
 have:g1=g:=zjA (fun b=>(q3 b (by simp)).2) q5
 rw[this]at q1;exact q1
theorem zgS {sh:FuncId→Bool} {env r:Regs} {fr:Nat} {s:SOp} {l:List Nat} (h:zcG env r fr s=some (.blocks l)) (ht:touch sh s≠5):∃F,zet sh env r fr s=some F∧∀x∈F,x∈l:=by
 cases s with
 |load n a=>
  simp only[zcG]at h
  split at h
  ·cases h
  ·rename_i y o hy
   simp only[Option.some.injEq,Foot.blocks.injEq]at h;subst h
   exact⟨_,rfl,by simp[hy,zgw]⟩
  ·cases h
 |store n a x=>
  simp only[zcG]at h
  split at h<;>cases h
 |alloc z=>simp only[zcG,Option.some.injEq,Foot.blocks.injEq]at h;subst h;exact⟨_,rfl,fun _ h=>h⟩
 |box z=>simp only[zcG,Option.some.injEq,Foot.blocks.injEq]at h;subst h;exact⟨_,rfl,fun _ h=>h⟩
 |bslice n z ps=>simp only[zcG,Option.some.injEq,Foot.blocks.injEq]at h;subst h;exact⟨_,rfl,fun _ h=>h⟩
 |mkMap=>simp only[zcG,Option.some.injEq,Foot.blocks.injEq]at h;subst h;exact⟨_,rfl,fun _ h=>h⟩
 |mkSlice z b l' c=>simp only[zcG,Option.some.injEq,Foot.blocks.injEq]at h;subst h;exact⟨_,rfl,fun _ h=>h⟩
 |rangeS x=>simp only[zcG,Option.some.injEq,Foot.blocks.injEq]at h;subst h;exact⟨_,rfl,fun _ h=>h⟩
 |app sz b x y=>
  simp only[zcG]at h
  split at h
  ·rename_i a c ha hc
   simp only[Option.some.injEq,Foot.blocks.injEq]at h;subst h
   exact⟨_,rfl,by simp[ha,hc,zgw]⟩
  ·rename_i k o n c ha hc
   simp only[Option.some.injEq,Foot.blocks.injEq]at h;subst h
   exact⟨_,rfl,by simp[ha,hc,zgw]⟩
  ·rename_i c k o n ha hc
   simp only[Option.some.injEq,Foot.blocks.injEq]at h;subst h
   exact⟨_,rfl,by simp[ha,hc,zgw]⟩
  ·rename_i k o n k' o' n' ha hc
   simp only[Option.some.injEq,Foot.blocks.injEq]at h;subst h
   exact⟨_,rfl,by simp[ha,hc,zgw]⟩
  ·cases h
 |call f args=>
  simp only[zcG]at h
  cases hd:allD (args.map (opd env r))with
  |none=>rw[hd]at h;cases h
  |some ds=>
   rw[hd]at h
   simp only[Option.some.injEq,Foot.blocks.injEq]at h;subst h
   refine⟨[],?_,fun _ h=>h⟩
   simp only[zet,hd,Option.isSome_some]
   cases hf:sh f with
   |true=>simp[touch,hf]at ht
   |false=>simp
 |iaddr sz x i=>
  simp only[zcG]at h
  split at h
  ·rename_i k o n hx
   simp only[Option.some.injEq,Foot.blocks.injEq]at h;subst h
   exact⟨_,rfl,by simp[hx,zGf]⟩
  ·rename_i y hx
   simp only[Option.some.injEq,Foot.blocks.injEq]at h;subst h
   exact⟨_,rfl,by simp[hx,zGf]⟩
  ·cases h
 |slice sz x lo hi mx=>
  simp only[zcG]at h
  split at h
  ·rename_i k o n hx
   simp only[Option.some.injEq,Foot.blocks.injEq]at h;subst h
   exact⟨_,rfl,by simp[hx,zGf]⟩
  ·rename_i y hx
   simp only[Option.some.injEq,Foot.blocks.injEq]at h;subst h
   exact⟨_,rfl,by simp[hx,zGf]⟩
  ·cases h
 |_=>simp[zcG]at h
end Go.AI
namespace Go.AI
theorem zud {sh:FuncId→Bool} {b:Array Nat} {ops:List (SOp×Option (Nat×Bool))} {ps:List (Nat×Nat)} (h:zmn sh b ops=some ps) {i j:Nat} {x y:SOp×Option (Nat×Bool)} (hi:ops[i]? =some x) (hj:ops[j]? =some y) (hij:i<j)
 (hb:(b.getD j 0).testBit i=false) (h1:touch sh x.1≠0) (h2:touch sh y.1≠0) (hs:(zex x.1 y.1&&x.2.isNone&&y.2.isNone)=false):
 touch sh x.1≠5∧touch sh y.1≠5∧((i,j)∈ps∨((touch sh x.1=1∨touch sh x.1=7)∧(touch sh y.1=1∨touch sh y.1=7))∨(touch sh x.1=3∧touch sh y.1=3)∨(touch sh x.1=2∧touch sh y.1=7)∨(touch sh x.1=7∧touch sh y.1=2)∨((touch sh x.1=1∨touch sh x.1=7)∧touch sh y.1=4)∨(touch sh x.1=4∧(touch sh y.1=1∨touch sh y.1=7))):=by
 unfold zmn at h
 have ml:∀{k:Nat} {z:SOp×Option (Nat×Bool)},ops[k]? =some z→touch sh z.1≠0→(k,touch sh z.1)∈((ops.zipIdx.map fun(o,i)=>(i,touch sh o.1)).filter fun x=>x.2 !=0):=by
  intro k z hk hz
  rw[List.mem_filter]
  refine⟨List.mem_map.2 ⟨(z,k),by rw[List.mem_zipIdx_iff_getElem?];exact hk,rfl⟩,by simpa using hz⟩
 generalize hl:((ops.zipIdx.map fun(o,i)=>(i,touch sh o.1)).filter fun x=>x.2 !=0)=l at h ml
 have mi:=ml hi h1
 have mj:=ml hj h2
 simp only at h
 generalize hps:((l.flatMap fun(j,b')=>(l.filter fun(i,_)=>i<j&& !(b.getD j 0).testBit i).map fun(i,a)=>(i,j,a,b')).filter fun(i,j,_,_)=>
  !(match ops[i]?,ops[j]? with|some x,some y=>zex x.1 y.1&&x.2.isNone&&y.2.isNone|_,_=>false))=q at h
 have mq:(i,j,touch sh x.1,touch sh y.1)∈q:=by
  rw[←hps,List.mem_filter]
  refine⟨List.mem_flatMap.2 ⟨(j,touch sh y.1),mj,List.mem_map.2 ⟨(i,touch sh x.1),List.mem_filter.2 ⟨mi,?_⟩,rfl⟩⟩,?_⟩
  ·show(decide (i<j)&& !(b.getD j 0).testBit i)=true
   rw[hb];simp[hij]
  ·simp only[hi,hj,hs,Bool.not_false]
 split at h
 ·cases h
 rename_i hany
 have hq:∀z∈q,¬((z.2.2.1==5||z.2.2.2==5)=true):=fun z hz hh=>hany (List.any_eq_true.2 ⟨z,hz,hh⟩)
 have h5:=hq _ mq
 simp only[Bool.or_eq_true,beq_iff_eq,not_or]at h5
 refine⟨h5.1,h5.2,?_⟩
 simp only[Option.some.injEq]at h
 by_cases hx:(!((touch sh x.1==1||touch sh x.1==7)&&(touch sh y.1==1||touch sh y.1==7)||(touch sh x.1==3&&touch sh y.1==3)||(touch sh x.1==2&&touch sh y.1==7)||(touch sh x.1==7&&touch sh y.1==2)||((touch sh x.1==1||touch sh x.1==7)&&touch sh y.1==4)||(touch sh x.1==4&&(touch sh y.1==1||touch sh y.1==7))))=true
 ·refine .inl ?_
  rw[←h]
  exact List.mem_map.2 ⟨_,List.mem_filter.2 ⟨mq,hx⟩,rfl⟩
 ·refine .inr ?_
  simp only[Bool.not_eq_true,Bool.not_eq_false',Bool.or_eq_true,Bool.and_eq_true,beq_iff_eq]at hx
  rcases hx with((((hx|hx)|hx)|hx)|hx)|hx
  ·exact .inl hx
  ·exact .inr (.inl hx)
  ·exact .inr (.inr (.inl hx))
  ·exact .inr (.inr (.inr (.inl hx)))
  ·exact .inr (.inr (.inr (.inr (.inl hx))))
  ·exact .inr (.inr (.inr (.inr (.inr hx))))
theorem zFd {sh:FuncId→Bool} {env r:Regs} {fr:Nat} {s:SOp} (h:touch sh s=0):zet sh env r fr s=some []:=by
 cases s<;>first|rfl|(simp[touch]at h;done)|skip
 ·rename_i f a;simp only[touch]at h;split at h<;>simp at h
 ·rename_i k x;cases k<;>first|rfl|simp[touch]at h
theorem zid {sh:FuncId→Bool} {env r:Regs} {fr:Nat} {s:SOp} {b i o n:Nat} (h:zcG env r fr s=some (.cells b i o n)):
 (∃m a,s= .load m a∧opd env r a= .ptr b i o∧n=m.getD 1)∨∃a x,s= .store n a x∧opd env r a= .ptr b i o:=by
 cases s with
 |load m a=>
  simp only[zcG]at h
  split at h
  ·rename_i b' i' o' hx
   simp only[Option.some.injEq,Foot.cells.injEq]at h
   obtain⟨rfl,rfl,rfl,rfl⟩:=h
   exact .inl ⟨m,a,rfl,hx,rfl⟩
  ·simp at h
  ·cases h
 |store m a x=>
  simp only[zcG]at h
  split at h
  ·rename_i b' i' o' hx
   simp only[Option.some.injEq,Foot.cells.injEq]at h
   obtain⟨rfl,rfl,rfl,rfl⟩:=h
   exact .inr ⟨a,x,rfl,hx⟩
  ·cases h
 |app sz b x y=>simp only[zcG]at h;split at h<;>simp at h
 |call f args=>simp only[zcG]at h;split at h<;>simp at h
 |iaddr sz x i=>simp only[zcG]at h;split at h<;>simp at h
 |slice sz x lo hi mx=>simp only[zcG]at h;split at h<;>simp at h
 |_=>simp[zcG]at h
theorem zbF {α β γ:Type} {x:Option α} {f:α→β×γ} {a:β} {b:γ} (h:x.map f=some (a,b)):∃z,x=some z∧a=(f z).1∧b=(f z).2:=by
 cases x with
 |none=>cases h
 |some z=>exact⟨z,rfl,by simp at h;rw[h],by simp at h;rw[h]⟩
theorem zue {app:App} {sh:FuncId→Bool} {f1 f2:Nat} {env r:Regs} {s1 s2:SOp} {x y:Foot} (h1:zcG env r f1 s1=some x) (h2:zcG env r f2 s2=some y) (hd:zdj x y=true) (t1:touch sh s1≠5) (t2:touch sh s2≠5) {h h' h'':Heap} {v1 v2:V}
 (e1:zad app sh f1 env r h s1=some (v1,h')) (e2:zad app sh f2 env r h' s2=some (v2,h'')):∃k,zad app sh f2 env r h s2=some (v2,k)∧zad app sh f1 env r k s1=some (v1,h''):=by
 have cb:∀{s:SOp} {f b i o n:Nat},zcG env r f s=some (.cells b i o n)→zet sh env r f s=some [b]:=by
  intro s f b i o n hf
  rcases zid (sh:=sh) hf with⟨m,a,rfl,hx,_⟩|⟨a,z,rfl,hx⟩<;>simp[zet,hx,zgw]
 cases x with
 |blocks l=>
  obtain⟨F1,b1,c1⟩:=zgS (sh:=sh) h1 t1
  cases y with
  |blocks l'=>
   obtain⟨F2,b2,c2⟩:=zgS (sh:=sh) h2 t2
   simp only[zdj,List.all_eq_true,bne_iff_ne,ne_eq]at hd
   exact zeA (zcl b1) (zcl b2) (fun z hz hz2=>hd z (c1 z hz) z (c2 z hz2) rfl) e1 e2
  |cells b i o n=>
   simp only[zdj,List.all_eq_true,bne_iff_ne,ne_eq]at hd
   exact zeA (zcl b1) (zcl (cb h2)) (fun z hz hz2=>hd z (c1 z hz) (by simpa using hz2)) e1 e2
 |cells b i o n=>
  cases y with
  |blocks l'=>
   obtain⟨F2,b2,c2⟩:=zgS (sh:=sh) h2 t2
   simp only[zdj,List.all_eq_true,bne_iff_ne,ne_eq]at hd
   exact zeA (zcl (cb h1)) (zcl b2) (fun z hz hz2=>hd z (c2 z hz2) (by simpa using hz)) e1 e2
  |cells b' i' o' n'=>
   by_cases hb:b=b'
   ·subst hb
    simp only[zdj,bne_self_eq_false,Bool.false_or,Bool.or_eq_true,bne_iff_ne,ne_eq,decide_eq_true_eq]at hd
    rcases zid (sh:=sh) h1 with⟨m,a,rfl,hx,hm⟩|⟨a,z,rfl,hx⟩<;>rcases zid (sh:=sh) h2 with⟨m',a',rfl,hx',hm'⟩|⟨a',z',rfl,hx'⟩<;>simp only[zad,hx,hx']at e1 e2⊢
    ·obtain⟨y1,g1,g2⟩:=zbF e1
     obtain⟨rfl,rfl⟩:=g2
     obtain⟨y2,g3,g4⟩:=zbF e2
     obtain⟨rfl,rfl⟩:=g4
     exact⟨_,by rw[g3];rfl,by rw[g1];rfl⟩
    ·obtain⟨y1,g1,g2⟩:=zbF e1
     obtain⟨rfl,rfl⟩:=g2
     obtain⟨y2,g3,g4⟩:=zbF e2
     obtain⟨rfl,rfl⟩:=g4
     exact⟨_,by rw[g3];rfl,by rw[zlI g3 (by rw[←hm];omega),g1];rfl⟩
    ·obtain⟨y1,g1,g2⟩:=zbF e1
     obtain⟨rfl,rfl⟩:=g2
     obtain⟨y2,g3,g4⟩:=zbF e2
     obtain⟨rfl,rfl⟩:=g4
     rw[zlI g1 (by rw[←hm'];omega)]at g3
     exact⟨_,by rw[g3];rfl,by rw[g1];rfl⟩
    ·obtain⟨y1,g1,g2⟩:=zbF e1
     obtain⟨rfl,rfl⟩:=g2
     obtain⟨y2,g3,g4⟩:=zbF e2
     obtain⟨rfl,rfl⟩:=g4
     obtain⟨k,p1,p2⟩:=zqD g1 g3 (by omega)
     exact⟨k,by rw[p1];rfl,by rw[p2];rfl⟩
   ·exact zeA (zcl (cb h1)) (zcl (cb h2)) (fun z hz hz2=>hb (by simp at hz hz2;rw[←hz,hz2])) e1 e2
theorem zds {app:App} {sh:FuncId→Bool} {f:Nat} {env r:Regs} {s:SOp} (ht:touch sh s=1∨touch sh s=7) {h h':Heap} {v:V} (e:zad app sh f env r h s=some (v,h')):h'=h:=by
 cases s with
 |load n a=>simp only[zad]at e;obtain⟨z,_,_,g⟩:=zbF e;exact g
 |iaddr sz x i=>
  simp only[zad]at e
  obtain⟨k,_,e⟩:=Option.bind_eq_some_iff.1 e
  obtain⟨z,_,_,g⟩:=zbF e;exact g
 |slice sz x lo hi mx=>
  simp only[zad]at e
  obtain⟨k,_,e⟩:=Option.bind_eq_some_iff.1 e
  obtain⟨k,_,e⟩:=Option.bind_eq_some_iff.1 e
  obtain⟨k,_,e⟩:=Option.bind_eq_some_iff.1 e
  obtain⟨z,_,_,g⟩:=zbF e;exact g
 |call f a=>simp only[touch]at ht;split at ht<;>simp at ht
 |len k x=>cases k<;>simp[touch]at ht
 |_=>simp[touch]at ht
theorem zku {app:App} {sh:FuncId→Bool} {f f':Nat} {env r:Regs} {s:SOp} (ht:touch sh s=7) {n:Nat} {a x:Opd} {h h1:Heap} {u:V} (e:zad app sh f' env r h (.store n a x)=some (u,h1)) (v:V):zad app sh f env r h1 s=some (v,h1)↔zad app sh f env r h s=some (v,h):=by
 simp only[zad]at e
 obtain⟨h',e1,_,rfl⟩:=zbF e
 have hptr:∃b i o,opd env r a= .ptr b i o:=by
  cases ha:opd env r a<;>rw[ha]at e1<;>first|exact⟨_,_,_,rfl⟩|simp[zbK]at e1
 obtain⟨b,i,o,ha⟩:=hptr
 rw[ha]at e1
 cases s with
 |iaddr sz y j=>
  simp only[zad]
  cases asNat (opd env r j)with
  |none=>simp
  |some k=>simp only[Option.bind_some,zqE e1];cases zbO h sz (opd env r y) k<;>simp
 |slice sz y lo hi mx=>
  simp only[zad]
  cases zby (lo.map (opd env r))<;>cases zby (hi.map (opd env r))<;>cases zby (mx.map (opd env r))<;>simp only[Option.bind_none,Option.bind_some,zqF e1]<;>first|(simp;done)|skip
  all_goals (cases zbx h sz (opd env r y) _ _ _<;>simp)
 |call f a=>simp only[touch]at ht;split at ht<;>simp at ht
 |len k x=>cases k<;>simp[touch]at ht
 |_=>simp[touch]at ht
def zOc:D→CK| .int .. => .int| .str _=> .str|_=> .bool
theorem zjj:∀(ks:List CK) (xs:List D) (b:Bool),zaM ks xs xs=some b→ks=xs.map zOc
 |[],[],_,_=>rfl
 |[],_::_,b,h=>by simp[zaM]at h
 |_::_,[],b,h=>by simp[zaM]at h
 |c::ks,x::xs,b,h=>by
  simp only[zaM]at h
  obtain⟨a,h1,h⟩:=Option.bind_eq_some_iff.1 h
  obtain⟨d,h2,_⟩:=Option.map_eq_some_iff.1 h
  rw[List.map_cons,←zjj ks xs d h2]
  congr 1
  cases c<;>cases x<;>simp_all [zbt,zOc]
theorem zlK {ks:List CK} {k:D} {b:Bool} (h:zeV ks k k=some b):ks=k.cells.map zOc:=by
 unfold zeV at h
 split at h
 ·exact zjj _ _ _ h
 ·cases h
theorem zsa {ks:List CK} {k:D} {es:List (D×V×Nat)} {x:Option (V×Nat)} (h:zhV ks k es=some x):zeV ks k k=some true∧zep ks k es=some x:=by
 unfold zhV at h
 split at h
 ·rename_i hk;exact⟨hk,h⟩
 ·cases h
theorem zjk {ks:List CK} {k:D} {l:List (D×V×Nat)}:∀(es:List (D×V×Nat)),zep ks k es=some none→zep ks k (es++l)=zep ks k l
 |[],_=>rfl
 |(k',v,t)::es,h=>by
  simp only[zep]at h
  obtain⟨e,h1,h⟩:=Option.bind_eq_some_iff.1 h
  cases e with
  |true=>simp at h
  |false=>
   simp only[Bool.false_eq_true,if_false]at h
   rw[List.cons_append]
   simp only[zep,h1,Option.bind_some,Bool.false_eq_true,if_false]
   exact zjk es h
theorem zsb {env r:Regs} {x y:Opd} (h:x.same y=true):opd env r x=opd env r y:=by
 cases x<;>cases y<;>simp[Opd.same]at h<;>subst h<;>rfl
theorem zCa {x y:D} (h:x.sameZ y=true):x=y:=by
 cases x<;>cases y<;>simp[D.sameZ]at h
 ·subst h;rfl
 ·obtain⟨rfl,rfl⟩:=h;rfl
theorem zuf {app:App} {sh:FuncId→Bool} {f1 f2:Nat} {env r:Regs} {s1 s2:SOp} (hse:zex s1 s2=true) {h h1 h2:Heap} {v1 v2:V} (e1:zad app sh f1 env r h s1=some (v1,h1)) (e2:zad app sh f2 env r h1 s2=some (v2,h2)):
 ∃k,zad app sh f2 env r h s2=some (v2,k)∧zad app sh f1 env r k s1=some (v1,h2):=by
 unfold zex at hse
 split at hse
 case h_2=>cases hse
 rename_i ks z m k ks' z' m' k'
 simp only[Bool.and_eq_true]at hse
 obtain⟨⟨hz,hm⟩,hk⟩:=hse
 have hz:=zCa hz
 subst hz
 have hm:opd env r m=opd env r m':=zsb hm
 have hk:opd env r k=opd env r k':=zsb hk
 simp only[zad,hm,hk,Bool.false_eq_true,if_false]at e1 e2⊢
 generalize opd env r m'=mv at e1 e2⊢
 generalize opd env r k'=kv at e1 e2⊢
 cases kv with
 |d kd=>
  simp only at e1 e2⊢
  obtain⟨⟨y,is⟩,g1,g2,rfl⟩:=zbF e1
  dsimp only at g2
  subst g2
  cases mv with
  |map b=>
   simp only at e2⊢
   cases hb:h1.get b with
   |none=>rw[hb]at e2;cases e2
   |some blk=>
    rw[hb]at e2
    cases blk with
    |map es clock=>
     simp only[hb]at e2⊢
     obtain⟨q,q1,q2⟩:=Option.map_eq_some_iff.1 e2
     refine⟨h2,by rw[q1];exact congrArg some q2,?_⟩
     cases q with
     |some vt=>
      simp only[Prod.mk.injEq]at q2
      obtain⟨_,rfl⟩:=q2
      rw[g1];rfl
     |none=>
      simp only[Prod.mk.injEq]at q2
      obtain⟨_,rfl⟩:=q2
      obtain⟨k1,k2⟩:=zsa q1
      unfold zcP at g1⊢
      simp only[hb]at g1
      obtain⟨x,x1,x2⟩:=Option.map_eq_some_iff.1 g1
      obtain⟨k3,k4⟩:=zsa x1
      have hkk:ks=ks':=by rw[zlK k1,zlK k3]
      subst hkk
      rw[k2]at k4
      cases k4
      simp only[Prod.mk.injEq]at x2
      obtain⟨rfl,_⟩:=x2
      have hg:(h1.put b (.map (es++[(kd,.d z,clock)]) (clock+1))).get b=some (.map (es++[(kd,.d z,clock)]) (clock+1)):=by simp[Heap.put,Heap.set]
      simp only[hg,zhV,k1,if_true,zjk es k2]
      simp[zep,k1]
    |_=>simp at e2
  |_=>simp at e2
 |_=>simp at e1
def Same (h g:Heap):Prop:=∀b,g.get b=h.get b∨∃z l f f',h.get b=some (.els z l f)∧g.get b=some (.els z l f')
theorem Same.refl {h:Heap}:Same h h:=fun _=> .inl rfl
theorem Same.symm {h g:Heap} (a:Same h g):Same g h:=fun c=>by
 rcases a c with a|⟨z,l,f,f',a1,a2⟩
 ·exact .inl a.symm
 ·exact .inr ⟨z,l,f',f,a2,a1⟩
theorem Same.trans {h g k:Heap} (a:Same h g) (b:Same g k):Same h k:=by
 intro c
 rcases a c with a|⟨z,l,f,f',a1,a2⟩<;>rcases b c with b|⟨z',l',f1,f1',b1,b2⟩
 ·exact .inl (b.trans a)
 ·exact .inr ⟨z',l',f1,f1',a▸b1,b2⟩
 ·exact .inr ⟨z,l,f,f',a1,b.trans a2⟩
 ·rw[a2]at b1;cases b1;exact .inr ⟨z,l,f,f1',a1,b2⟩
theorem zqG {h:Heap} {b n:Nat}:Same h (freeze h b n):=by
 intro c
 unfold freeze
 split
 ·rename_i z l fz e
  split
  ·exact .inl rfl
  ·by_cases hc:c=b
   ·subst hc;exact .inr ⟨z,l,fz,n,e,by simp[Heap.put,Heap.set]⟩
   ·left;rw[zbN,if_neg hc]
 ·exact .inl rfl
theorem zGh {f:Heap→V→Option (D×Heap)} (hf:∀h v x g,f h v=some (x,g)→Same h g):∀l h xs g,zbI f h l=some (xs,g)→Same h g:=by
 intro l
 induction l with
 |nil=>intro h xs g e;simp only[zbI,Option.some.injEq,Prod.mk.injEq]at e;obtain⟨_,rfl⟩:=e;exact .refl
 |cons v r ih=>
  intro h xs g e
  simp only[zbI]at e
  obtain⟨⟨x,h1⟩,e1,e⟩:=zas e
  obtain⟨⟨ys,h2⟩,e2,e3⟩:=zaw e
  simp only[Prod.mk.injEq]at e3
  obtain⟨_,rfl⟩:=e3
  exact(hf _ _ _ _ e1).trans (ih _ _ _ e2)
theorem zkv {f:Heap→V→Option (D×Heap)} (hf:∀h v x g,f h v=some (x,g)→Same h g) {l:List V} {h g:Heap} {xs:List D} (e:zba f h l=some (xs,g)):Same h g:=by
 unfold zba at e
 split at e
 ·simp only[Option.some.injEq,Prod.mk.injEq]at e;obtain⟨_,rfl⟩:=e;exact .refl
 ·exact zGh hf _ _ _ _ e
theorem zCb:∀n h v x g,res n h v=some (x,g)→Same h g:=by
 intro n
 induction n with
 |zero=>
  intro h v x g e
  cases v<;>simp only[res,Option.some.injEq,Prod.mk.injEq,reduceCtorEq]at e
  obtain⟨_,rfl⟩:=e;exact .refl
 |succ n ih=>
  intro h v x g e
  cases v<;>simp only[res,Option.some.injEq,Prod.mk.injEq,reduceCtorEq]at e
  case d=>obtain⟨_,rfl⟩:=e;exact .refl
  case sl b off len=>
   split at e
   ·split at e
    ·obtain⟨⟨ds,h2⟩,e2,e3⟩:=zaw e
     simp only[Prod.mk.injEq]at e3
     obtain⟨_,rfl⟩:=e3
     exact zqG.trans (zkv ih e2)
    ·cases e
   ·cases e
  all_goals
   obtain⟨⟨ds,h2⟩,e2,e3⟩:=zaw e
   simp only[Prod.mk.injEq]at e3
   obtain⟨_,rfl⟩:=e3
   exact zkv ih e2
theorem zoz {app:App} {sh:FuncId→Bool} {f:Nat} {env r:Regs} {s:SOp} (ht:touch sh s=1∨touch sh s=7) {h g h':Heap} {v:V} (a:Same h g) (e:zad app sh f env r h s=some (v,h')):zad app sh f env r g s=some (v,g):=by
 have hl:∀n x,zdA g n x=zdA h n x:=by
  intro n x
  cases x<;>try rfl
  rename_i b i off
  simp only[zdA]
  rcases a b with e|⟨z,l,f,f',e1,e2⟩
  ·rw[e]
  ·rw[e1,e2]
 have hi:∀n x k,zbO g n x k=zbO h n x k:=by
  intro n x k
  cases x with
  |sl b i off=>
   simp only[zbO]
   rcases a b with e|⟨z,l,f,f',e1,e2⟩
   ·rw[e]
   ·rw[e1,e2]
  |d x=>cases x<;>rfl
  |_=>rfl
 have hs:∀n x lo hi mx,zbx g n x lo hi mx=zbx h n x lo hi mx:=by
  intro n x lo hi mx
  cases x with
  |sl b i off=>
   cases mx with
   |none=>
    simp only[zbx]
    rcases a b with e|⟨z,l,f,f',e1,e2⟩
    ·rw[e]
    ·rw[e1,e2]
   |some m=>rfl
  |d x=>cases x<;>cases mx<;>rfl
  |_=>rfl
 cases s with
 |load n x=>
  simp only[zad]at e⊢
  obtain⟨z,e1,e2,_⟩:=zbF e
  rw[hl,e1,e2];rfl
 |iaddr n x i=>
  simp only[zad]at e⊢
  obtain⟨k,e0,e⟩:=zas e
  obtain⟨z,e1,e2,_⟩:=zbF e
  rw[e0,Option.bind_some,hi,e1,e2];rfl
 |slice n x lo hi mx=>
  simp only[zad]at e⊢
  obtain⟨k1,e01,e⟩:=zas e
  obtain⟨k2,e02,e⟩:=zas e
  obtain⟨k3,e03,e⟩:=zas e
  obtain⟨z,e1,e2,_⟩:=zbF e
  rw[e01,Option.bind_some,e02,Option.bind_some,e03,Option.bind_some,hs,e1,e2];rfl
 |call f a=>simp only[touch]at ht;split at ht<;>simp at ht
 |len k x=>cases k<;>simp[touch]at ht
 |_=>simp[touch]at ht
theorem zoA {app:App} {sh:FuncId→Bool} {f:Nat} {env r:Regs} {s:SOp} (ht:touch sh s=4) {h h':Heap} {v:V} (e:zad app sh f env r h s=some (v,h')):Same h h':=by
 cases s with
 |call f a=>
  simp only[touch]at ht
  split at ht
  ·simp at ht
  rename_i hf
  simp only[zad]at e
  rw[if_neg hf]at e
  obtain⟨⟨ds,h1⟩,e0,e⟩:=zas e
  obtain⟨⟨w,h2⟩,e1,e⟩:=zas e
  obtain⟨z,_,_,rfl⟩:=zbF e
  exact zkv (zCb 8) e0
 |len k x=>cases k<;>simp[touch]at ht
 |_=>simp[touch]at ht
theorem zCc {app:App} {sh:FuncId→Bool} {base:Nat} {b:Array Nat} {sops:List (SOp×Option (Nat×Bool))} {ps:List (Nat×Nat)} {env r:Regs} (hp:zmn sh b sops=some ps) (hok:∀p∈ps,zbn base sops env r [p]=true) {i j:Nat} (hij:i<j)
 (hb:(b.getD j 0).testBit i=false):zBY (Stp app sh base sops env r) i j:=by
 intro h h1 h2 st1 st2
 cases hi:sops[i]? with
 |none=>
  simp only[Stp,hi]at st1;subst st1
  exact⟨h2,st2,by simp only[Stp,hi]⟩
 |some x=>
  obtain⟨s1,g1⟩:=x
  cases hj:sops[j]? with
  |none=>
   simp only[Stp,hj]at st2;subst st2
   exact⟨h,by simp only[Stp,hj],st1⟩
  |some y=>
   obtain⟨s2,g2⟩:=y
   have st1':=st1
   have st2':=st2
   simp only[Stp,hi]at st1
   simp only[Stp,hj]at st2
   by_cases hw1:zbc env g1=true
   case neg=>
    rw[if_neg hw1]at st1
    obtain⟨k1,rfl⟩:=st1
    exact⟨h2,st2',by simp only[Stp,hi];rw[if_neg hw1];exact⟨k1,trivial⟩⟩
   by_cases hw2:zbc env g2=true
   case neg=>
    rw[if_neg hw2]at st2
    obtain⟨k2,rfl⟩:=st2
    exact⟨h,by simp only[Stp,hj];rw[if_neg hw2];exact⟨k2,trivial⟩,st1'⟩
   rw[if_pos hw1]at st1
   rw[if_pos hw2]at st2
   have fin:(∃k,zad app sh (base+j) env r h s2=some (env j,k)∧zad app sh (base+i) env r k s1=some (env i,h2))→∃h1',Stp app sh base sops env r j h h1'∧Stp app sh base sops env r i h1' h2:=by
    rintro⟨k,e1,e2⟩
    exact⟨k,by simp only[Stp,hj];rw[if_pos hw2];exact e1,by simp only[Stp,hi];rw[if_pos hw1];exact e2⟩
   refine fin ?_
   by_cases t1:touch sh s1=0
   ·obtain⟨rfl,c⟩:=zlJ (zcl (zFd t1)) st1
    exact⟨h2,st2,c h2⟩
   by_cases t2:touch sh s2=0
   ·obtain⟨rfl,c⟩:=zlJ (zcl (zFd t2)) st2
    exact⟨h,c h,st1⟩
   cases hse:(zex s1 s2&&g1.isNone&&g2.isNone)with
   |true=>
    simp only[Bool.and_eq_true]at hse
    exact zuf hse.1.1 st1 st2
   |false=>
    obtain⟨n1,n2,hc⟩:=zud hp hi hj hij hb t1 t2 hse
    rcases hc with hc|⟨hc1,hc2⟩|⟨hc1,hc2⟩|⟨hc1,hc2⟩|⟨hc1,hc2⟩|⟨hc1,hc2⟩|⟨hc1,hc2⟩
    ·have:=hok _ hc
     have hne:(i==j)=false:=by simp;omega
     simp only[zbn,List.all_cons,List.all_nil,Bool.and_true,hne,hi,hj,hw1,hw2,Bool.not_true,Bool.false_or]at this
     simp only[Bool.false_eq_true,if_false]at this
     split at this
     ·rename_i x y hx hy
      exact zue hx hy this n1 n2 st1 st2
     ·cases this
    ·have q1:=zds hc1 st1
     subst q1
     have q2:=zds hc2 st2
     subst q2
     exact⟨_,st2,st1⟩
    ·have bf:∀{s:SOp} {f:Nat},touch sh s=3→zet sh env r f s=some [f]:=by
      intro s f ht
      cases s<;>first|rfl|(simp[touch]at ht;done)|skip
      ·rename_i f a;simp only[touch]at ht;split at ht<;>simp at ht
      ·rename_i k x;cases k<;>simp[touch]at ht
     exact zeA (zcl (bf hc1)) (zcl (bf hc2)) (by simp;omega) st1 st2
    ·have q2:=zds (.inr hc2) st2
     subst q2
     have hs:∃n a x,s1= .store n a x:=by
      cases s1<;>first|exact⟨_,_,_,rfl⟩|(simp[touch]at hc1;done)|skip
      ·rename_i f a;simp only[touch]at hc1;split at hc1<;>simp at hc1
      ·rename_i k x;cases k<;>simp[touch]at hc1
     obtain⟨n,a,x,rfl⟩:=hs
     exact⟨h,(zku hc2 st1 _).1 st2,st1⟩
    ·have q1:=zds (.inr hc1) st1
     subst q1
     have hs:∃n a x,s2= .store n a x:=by
      cases s2<;>first|exact⟨_,_,_,rfl⟩|(simp[touch]at hc2;done)|skip
      ·rename_i f a;simp only[touch]at hc2;split at hc2<;>simp at hc2
      ·rename_i k x;cases k<;>simp[touch]at hc2
     obtain⟨n,a,x,rfl⟩:=hs
     exact⟨h2,st2,(zku hc1 st2 _).2 st1⟩
    ·have q1:=zds hc1 st1
     subst q1
     exact⟨h2,st2,zoz hc1 (zoA hc2 st2) st1⟩
    ·have q2:=zds hc2 st2
     subst q2
     exact⟨h,zoz hc2 (zoA hc1 st1).symm st2,st1⟩
end Go.AI
namespace Go.AI
variable {P:Program} {sh:FuncId→Bool} {T:Tabs} {κ:Ctx T} {φ φ':Place} {H H':Heap} {w w' w'':World} {S S':Nat→Nat→Prop}
theorem zkw {base:Nat} {ops:List (SOp×Option (Nat×Bool))} {env r:Regs} {ps:List (Nat×Nat)} (h:zbn base ops env r ps=true) {p:Nat×Nat} (hp:p∈ps):zbn base ops env r [p]=true:=by
 unfold zbn at h⊢
 rw[List.all_eq_true]at h
 rw[List.all_cons,h p hp,List.all_nil,Bool.and_true]
theorem zgF {base:Nat} {ops:List (SOp×Option (Nat×Bool))} {env r:Regs} {ps:List (Nat×Nat)} (h:zbn base ops env r (zfM ops++ps)=true) {i:Nat} {so:SOp} {j:Nat} {want:Bool} (hi:ops[i]? =some (so,some (j,want))):zbR (env j)=true:=by
 have hm:(j,j)∈zfM ops++ps:=by
  refine List.mem_append.2 (.inl (List.mem_map.2 ⟨j,?_,rfl⟩))
  rw[List.mem_eraseDups,List.mem_filterMap]
  exact⟨(so,some (j,want)),List.mem_of_getElem? hi,rfl⟩
 have:=zkw h hm
 simpa[zbn]using this
theorem zCd {sops:List (SOp×Option (Nat×Bool))} (h:zpW sops=true):zGe sops 0:=by
 intro i so g hi
 unfold zpW at h
 rw[List.all_eq_true]at h
 have:=h ((so,g),i) (zdn hi)
 simp only[Bool.and_eq_true,List.all_eq_true]at this
 obtain⟨a1,a2⟩:=this
 refine⟨fun j hj=> ?_,fun j t hg=> ?_⟩
 ·have:=a1 _ hj
  simpa using this
 ·subst hg;simpa using a2
theorem zCe {ops:Array Oper} (hd:∀i j d,dstOf ops i=some d→dstOf ops j=some d→i=j) {l m:List Nat} (hm:∀k,k∈l↔k∈m) (t:Nat):cur ops l t=cur ops m t:=by
 cases h:cur ops l t with
 |some k=>
  obtain⟨h1,h2⟩:=zeh h
  cases h':cur ops m t with
  |some k'=>rw[hd k k' t h2 (zeh h').2]
  |none=>
   unfold cur at h'
   rw[List.find?_eq_none]at h'
   have:=h' k ((hm k).1 h1)
   rw[h2]at this;simp at this
 |none=>
  refine(zrZ fun k hk hkt=> ?_).symm
  unfold cur at h
  rw[List.find?_eq_none]at h
  have:=h k ((hm k).2 hk)
  rw[hkt]at this;simp at this
theorem zxx {ro:Option Nat} {app:App} (happ:zli T P sh app) {U:Nat→Bool} {nt:Nat} {inR:Bool} {id:Nat} {ops:Array Oper} {draw:Bool} {c:C} (hp:zcN P U nt sh inR (.region id ops draw)=some c)
 {n:Nat} {st st':St} {e:Ex} (hx:zbw app sh n c st=some (e,st')) {a:Act} (s:Sim P sh κ φ st.h w) (hr:RR φ w (stab κ φ st.h) U nt st.r a.tmps) {Q:Exit→Act→World→Prop}
 (hQ:∀a' w' φ',e= .normal→Sim P sh κ φ' st'.h w'→Ext κ φ st.h w φ' st'.h w'→RR φ' w' (stab κ φ' st'.h) U nt st'.r a'.tmps→a'.defers=a.defers→(∀b,b<st.h.next→φ b= .unborn→φ' b= .unborn)→Q .normal a' w'):
 (Code.region id ops draw).wpIn (zua ro) 0 P Q a w:=by
 simp only[zcN]at hp
 obtain⟨⟨sops,wf⟩,hpo,hp⟩:=zas hp
 dsimp only at hp
 split at hp
 ·cases hp
 rename_i hlo
 simp only[Bool.not_eq_true',Bool.not_eq_false]at hlo
 obtain⟨p1,p2,_⟩:=zfS _ _ _ _ _ hpo
 have hlen:sops.length=ops.size:=by rw[p1,Array.length_toList]
 have main:∀ps,c= .region sops (zdl U wf) (zfM sops++ps)→∃env h',e= .normal∧st'={r:=zew env (zdl U wf) st.r,h:=h'}∧zbn st.h.next sops env st.r (zfM sops++ps)=true∧zot (Stp app sh st.h.next sops env st.r) (List.range ops.size) (st.h.bump sops.length) h':=by
  intro ps hc
  subst hc
  simp only[zbw]at hx
  obtain⟨⟨env,h'⟩,h1,h2⟩:=zas hx
  dsimp only at h2
  split at h2
  case isFalse=>cases h2
  rename_i hpk
  simp only[Option.some.injEq,Prod.mk.injEq]at h2
  obtain⟨rfl,rfl⟩:=h2
  obtain⟨_,hch⟩:=zfe (all:=sops) sops 0 zdd env (st.h.bump sops.length) h' (by simp) (zCd hlo) h1
  refine⟨env,h',rfl,rfl,hpk,?_⟩
  rw[List.range_eq_range',←hlen];exact hch
 have fin:∀env h' (l:List Nat),e= .normal→st'={r:=zew env (zdl U wf) st.r,h:=h'}→(∀k,k∈l→k<ops.size)→(∀t,t<nt→wf.lookup t=cur ops (l.reverse++[]) t)→∀(w0:World),Ext κ φ st.h w φ (st.h.bump sops.length) w0→
  ∀a' w' φ',Sim P sh κ φ' h' w'→Ext κ φ (st.h.bump sops.length) w0 φ' h' w'→RSt φ' w' (stab κ φ' h') U nt ops env st.r (l.reverse++[]) a'.tmps→a'.defers=a.defers→(∀b,b<(st.h.bump sops.length).next→φ b= .unborn→(∀i∈l,b≠st.h.next+i)→φ' b= .unborn)→Q .normal a' w':=by
  intro env h' l he hst hl hw w0 e0 a' w' φ' s1 e1 r1 d1 u1
  subst hst
  refine hQ a' w' φ' he s1 (e0.trans e1) (r1.outs hw) d1 fun b hb hu=> ?_
  refine u1 b ?_ hu fun i _=>by omega
  show b<st.h.next+sops.length
  omega
 have unb:∀l:List Nat,(∀k,k∈l→k<ops.size)→∀i∈l,φ (st.h.next+i)= .unborn∧st.h.next+i<(st.h.bump sops.length).next:=fun l hl i hi=>by
  have:=hl i hi
  exact⟨s.next _ (by omega),by show _<st.h.next+sops.length;omega⟩
 cases draw with
 |false=>
  simp only[Bool.false_eq_true,if_false,Option.some.injEq]at hp
  obtain⟨env,h',he,hst,hpk,hch⟩:=main [] (by rw[←hp,List.append_nil])
  refine wpIn_region ?_
  obtain⟨s0,e0⟩:=zmw s sops.length
  have hmem:∀k,k∈List.range ops.size→k<ops.size:=fun k hk=>List.mem_range.1 hk
  refine zjz happ (fun i so j want hi=>zgF hpk hi) (List.range ops.size) [] φ _ h' a w (zxv hpo) List.nodup_range s0 (hr.start (ops:=ops) (env:=env)|>.ext e0) (unb _ hmem) hch ?_
  exact fin env h' _ he hst hmem (fun t ht=>by
   rw[p2,List.append_nil]
   have:=zfw (ops:=ops) ops.size (Nat.le_refl _) t
   rw[←this,←Array.length_toList,List.take_length]) w e0
 |true=>
  simp only[if_true]at hp
  split at hp
  case isFalse=>cases hp
  rename_i hdk
  simp only[Bool.and_eq_true]at hdk
  obtain⟨hdk,hfo⟩:=hdk
  obtain⟨ps,hps,hp⟩:=zaw hp
  obtain⟨env,h',he,hst,hpk,hch⟩:=main ps hp.symm
  obtain⟨d1,d2,_⟩:=zow hdk
  refine wpIn_region_draw fun t=> ?_
  obtain⟨l,hl,hperm,hafter⟩:=zqx d2 t
  rw[hfo,hl]
  have hdr:Drew w {w with drawn:=w.drawn+1}:=⟨rfl,rfl,rfl,rfl⟩
  obtain⟨s0,e0⟩:=zfP s hdr
  obtain⟨s1,e1⟩:=zmw s0 sops.length
  have hmem:∀k,k∈l→k<ops.size:=fun k hk=>List.mem_range.1 (hperm.subset hk)
  have hnd:l.Nodup:=hperm.symm.nodup List.nodup_range
  have hsw:∀i j,i<j→((Region.before ops).getD j 0).testBit i=false→zBY (Stp app sh st.h.next sops env st.r) i j:=fun i j hij hb=>
   zCc hps (fun p hpm=>zkw hpk (List.mem_append.2 (.inr hpm))) hij hb
  have hord:l.Pairwise (fun a b=>b<a→((Region.before ops).getD a 0).testBit b=false):=by
   rw[List.pairwise_iff_getElem]
   intro i j hi hj hij _
   cases hb:((Region.before ops).getD l[i] 0).testBit l[j]with
   |false=>rfl
   |true=>
    have hsp:l=l.take i++l[i]::l.drop (i+1):=by rw[List.getElem_cons_drop,List.take_append_drop]
    have hin:=ahead hafter (l[i]+1) l[i] (Nat.lt_succ_self _) l[j] _ _ hsp hb
    obtain⟨k,hk,hkj⟩:=List.mem_take_iff_getElem.1 hin
    have hkl:k<j:=by omega
    exact absurd hkj (List.pairwise_iff_getElem.1 hnd k j (by omega) hj hkl)
  have hch':=zlF (C:=fun b a=>((Region.before ops).getD a 0).testBit b=false) hsw l (List.range ops.size) hperm List.pairwise_lt_range hord hch
  refine zjz happ (fun i so j want hi=>zgF hpk hi) l [] φ _ h' a _ (zuc hpo hdk hperm hafter) hnd s1 (hr.start (ops:=ops) (env:=env)|>.ext (e0.trans e1)) (unb _ hmem) hch' ?_
  exact fin env h' _ he hst hmem (fun t ht=>by
   rw[p2,List.append_nil]
   have:=zfw (ops:=ops) ops.size (Nat.le_refl _) t
   rw[←Array.length_toList,List.take_length]at this
   rw[this]
   exact zCe d1 (fun k=>by rw[List.mem_reverse,List.mem_reverse,hperm.mem_iff,Array.length_toList]) t) _ (e0.trans e1)
end Go.AI
namespace Go.AI
variable {P:Program} {sh:FuncId→Bool} {T:Tabs} {κ:Ctx T} {φ φ':Place} {H H':Heap} {w w' w'':World} {S S':Nat→Nat→Prop}
def Ex.out:Ex→Exit
 | .normal=> .normal| .exit id=> .exit id| .ret=> .ret
def Marks (lo:Nat) (φ:Place) (ds:List Deferred) (w:World):Prop:=
 ∃bs:List Nat,ds=bs.map (fun b=>{target:= .collected b,args:= #[]})∧bs.Nodup∧∀b∈bs,lo≤b∧w.heap[b]? =some (.deferred (some []))∧∀b' sz,φ b'≠.at b sz
theorem zfx {m:Nat} {o:Obj} (h:w.heap[m]? =some o):m<w.heap.size:=by
 rcases Nat.lt_or_ge m w.heap.size with h1|h1
 ·exact h1
 ·rw[Array.getElem?_eq_none h1]at h;cases h
theorem Marks.ext (e:Ext κ φ H w φ' H' w') {lo:Nat} {ds:List Deferred} (h:Marks lo φ ds w):Marks lo φ' ds w':=by
 obtain⟨bs,h1,h2,h3⟩:=h
 refine⟨bs,h1,h2,fun b hb=> ?_⟩
 obtain⟨a1,a2,a3⟩:=h3 b hb
 obtain⟨b1,b2⟩:=e.frame b (zfx a2) a3
 exact⟨a1,b1.trans a2,b2⟩
theorem Marks.nil {lo:Nat}:Marks lo φ [] w:=⟨[],rfl,List.nodup_nil,fun b hb=>by cases hb⟩
theorem Marks.cons {lo b:Nat} {ds:List Deferred} (h:Marks lo φ ds w) (hn:w.heap.size≤b) (hlo:lo≤b) (hk:∀k,k<w.heap.size→w'.heap[k]? =w.heap[k]?) (hb:w'.heap[b]? =some (.deferred (some []))) (hu:∀b' sz,φ b'≠.at b sz):Marks lo φ ([{target:= .collected b,args:= #[]}]++ds) w':=by
 obtain⟨bs,h1,h2,h3⟩:=h
 refine⟨b::bs,by rw[h1];rfl,List.nodup_cons.2 ⟨fun hm=> ?_,h2⟩,fun c hc=> ?_⟩
 ·have:=zfx (h3 b hm).2.1;omega
 ·rcases List.mem_cons.1 hc with rfl|hc
  ·exact⟨hlo,hb,hu⟩
  ·obtain⟨a1,a2,a3⟩:=h3 c hc
   exact⟨a1,(hk c (zfx a2)).trans a2,a3⟩
def After (P:Program) (sh:FuncId→Bool) (U:Nat→Bool) (nt lo:Nat) (κ:Ctx T) (φ:Place) (H:Heap) (w:World) (st':St) (R:Act→World→Prop):Prop:=
 ∀a' w' φ',Sim P sh κ φ' st'.h w'→Ext κ φ H w φ' st'.h w'→RR φ' w' (stab κ φ' st'.h) U nt st'.r a'.tmps→Marks lo φ' a'.defers w'→(∀b,b<H.next→φ b= .unborn→φ' b= .unborn)→R a' w'
theorem After.trans {U:Nat→Bool} {nt lo:Nat} {st':St} {R:Act→World→Prop} (h:After P sh U nt lo κ φ H w st' R) (e:Ext κ φ H w φ' H' w') (hu:∀b,b<H.next→φ b= .unborn→φ' b= .unborn):After P sh U nt lo κ φ' H' w' st' R:=
 fun a2 w2 φ2 s2 e2 r2 m2 u2=>h a2 w2 φ2 s2 (e.trans e2) r2 m2 fun b hb hub=>u2 b (Nat.lt_of_lt_of_le hb e.next) (hu b hb hub)
def zsc (T:Tabs) (P:Program) (sh:FuncId→Bool) (U:Nat→Bool) (nt lo:Nat) (ro:Option Nat) (x:Code) (f:St→Option (Ex×St)):Prop:=
 ∀(κ:Ctx T) (φ:Place) (w:World) (st st':St) (e:Ex) (a:Act) (Q:Exit→Act→World→Prop),f st=some (e,st')→Sim P sh κ φ st.h w→RR φ w (stab κ φ st.h) U nt st.r a.tmps→Marks lo φ a.defers w→lo≤w.heap.size→
  After P sh U nt lo κ φ st.h w st' (Q e.out)→x.wpIn (zua ro) 0 P Q a w
theorem least {J:Nat→Prop} (h:∃k,J k):∃k,J k∧∀j,J j→k≤j:=by
 obtain⟨k,hk⟩:=h
 induction k using Nat.strongRecOn with
 |_ k ih=>
  by_cases hj:∃j,j<k∧J j
  ·obtain⟨j,h1,h2⟩:=hj;exact ih j h1 h2
  ·exact⟨k,hk,fun j hj'=>Nat.le_of_not_lt fun hlt=>hj ⟨j,hlt,hj'⟩⟩
theorem zGi {U:Nat→Bool} {nt lo:Nat} {ro:Option Nat} {x:Code} {f:St→Option (Ex×St)} (h:zsc T P sh U nt lo ro x f) (n:Nat):zsc T P sh U nt lo ro (.loop x) (iter f n):=by
 intro κ φ w st st' e a Q hx s hr hm hlo hQ
 let J:Act→World→Nat→Prop:=fun a w k=>∃φ st,iter f k st=some (e,st')∧Sim P sh κ φ st.h w∧RR φ w (stab κ φ st.h) U nt st.r a.tmps∧Marks lo φ a.defers w∧lo≤w.heap.size∧After P sh U nt lo κ φ st.h w st' (Q e.out)
 let μ:Act→World→Nat:=fun a w=>Classical.epsilon fun k=>J a w k∧∀j,J a w j→k≤j
 have hμ:∀a w,(∃k,J a w k)→J a w (μ a w)∧∀j,J a w j→μ a w≤j:=fun a w hk=>Classical.epsilon_spec (p:=fun k=>J a w k∧∀j,J a w j→k≤j) (least hk)
 refine wpIn_loop (fun a w=>∃k,J a w k) μ ⟨n,φ,st,hx,s,hr,hm,hlo,hQ⟩ fun a w hI=> ?_
 obtain⟨hJ,_⟩:=hμ a w hI
 obtain⟨φ,st,hx,s,hr,hm,hlo,hQ⟩:=hJ
 cases hm':μ a w with
 |zero=>rw[hm']at hx;simp[iter]at hx
 |succ k=>
  rw[hm']at hx
  simp only[iter]at hx
  cases hf:f st with
  |none=>rw[hf]at hx;cases hx
  |some p=>
   obtain⟨ex,st1⟩:=p
   rw[hf]at hx
   refine h κ φ w st st1 ex a _ hf s hr hm hlo fun a1 w1 φ1 s1 e1 r1 m1 u1=> ?_
   cases ex with
   |normal=>
    have hJ1:J a1 w1 k:=⟨φ1,st1,hx,s1,r1,m1,Nat.le_trans hlo e1.size,hQ.trans e1 u1⟩
    exact⟨⟨k,hJ1⟩,Nat.lt_succ_of_le ((hμ a1 w1 ⟨k,hJ1⟩).2 k hJ1)⟩
   |exit id=>
    simp only[Option.some.injEq,Prod.mk.injEq]at hx
    obtain⟨rfl,rfl⟩:=hx
    exact hQ a1 w1 φ1 s1 e1 r1 m1 u1
   |ret=>
    simp only[Option.some.injEq,Prod.mk.injEq]at hx
    obtain⟨rfl,rfl⟩:=hx
    exact hQ a1 w1 φ1 s1 e1 r1 m1 u1
theorem zmG (s:Sim P sh κ φ H w) {b m sz:Nat} (hφ:φ b= .at m sz) {L L':LoopB} (hL:H.get b=some (.loop L)) {r r':Loop} (hw:w.heap[m]? =some (.loop r))
 (hb:Ext κ φ H w φ (H.put b (.loop L')) (w.putObj m (.loop r'))→RB P sh φ (w.putObj m (.loop r')) (stab κ φ (H.put b (.loop L'))) m sz (.loop L')):
 Sim P sh κ φ (H.put b (.loop L')) (w.putObj m (.loop r'))∧Ext κ φ H w φ (H.put b (.loop L')) (w.putObj m (.loop r')):=by
 have hlt:=zfx hw
 have hu:Upd w m (.loop r') (w.putObj m (.loop r')):=⟨World.putObj_size,World.putObj_heap_same hlt,fun k hk=>World.putObj_heap_other hk,rfl,rfl,rfl⟩
 have hno:∀k,¬stab κ φ H m k:=fun k hk=>by
  obtain⟨l,fz,h1,_⟩:=hk.2 b sz hφ
  rw[hL]at h1;cases h1
 refine zkn s hφ hu (fun k hk=>absurd hk (hno k)) (fun k v hk=>absurd hk (hno k)) ?_ hb
 have h1:w.shape? m=none:=by simp[World.shape?,hw]
 have h2:(w.putObj m (.loop r')).shape? m=none:=by simp[World.shape?,World.putObj_heap_same hlt]
 rw[h1,h2]
section
variable {U:Nat→Bool} {nt lo:Nat} {ro:Option Nat} {app:App} {n:Nat}
theorem zsd {a:Act} {r:Regs} (hr:RR φ w S U nt r a.tmps) {x:Operand} {y:Opd} (hp:zbz U nt [] x=some y):Rel φ w S (opd zdd r y) (a.eval x):=by
 have ho:zbA (fun _=>True) U nt [] zdd r a.eval φ w S:=by
  have:=RSt.opds (ops:= #[]) (env:=zdd) (done:=[]) (hr.start) (so:= .move y) (wr:=[]) (fun t k hl=>by cases hl) (fun t _ _=>rfl)
  intro x' y' hp' _
  have h2:=RSt.opds (ops:= #[]) (env:=zdd) (done:=[]) (hr.start) (so:= .move y') (wr:=[]) (fun t k hl=>by cases hl) (fun t _ _=>rfl)
  exact h2 x' y' hp' (by simp[SOp.opds])
 exact ho x y hp trivial
theorem zoB (happ:zli T P sh app) {inR:Bool} (hro:inR=false→ro=none) {g:Operand} {ps:Array Tmp} {assign body:Code} {c:C} (hp:zcN P U nt sh inR (.rangeFunc g ps assign body)=some c):
 zsc T P sh U nt lo ro (.rangeFunc g ps assign body) (zbw app sh n c):=by
 intro κ φ w st st' e a Q hx s hr hm hlo hQ
 simp only[zcN]at hp
 obtain⟨f,hf,hp⟩:=zas hp
 split at hp
 case isFalse=>cases hp
 rename_i hin
 simp only[Bool.and_eq_true,Bool.not_eq_true',List.all_eq_true,decide_eq_true_eq]at hin
 obtain⟨hin,hps⟩:=hin
 obtain⟨as,has,hp⟩:=zas hp
 obtain⟨bd,hbd,rfl⟩:=zaw hp
 have hrn:=hro hin
 subst hrn
 simp only[zbw]at hx
 split at hx
 ·cases hx
 rename_i hfn
 obtain⟨⟨v,H1⟩,happ1,hx⟩:=zas hx
 dsimp only at hx
 refine wpIn_rangeFunc fun fn _=> ?_
 let wa:=w.alloc (.deferred (some []))
 let rec0:Loop:={state:= .ready,pending:=none,fn,tmps:=a.tmps,params:=ps,assign,body,defers:=w.heap.size}
 have hsa:wa.heap.size=w.heap.size+1:=by simp[wa]
 have hka:∀k,k<w.heap.size→wa.heap[k]? =w.heap[k]? :=fun k hk=>by
  show(w.heap.push _)[k]? =_
  rw[Array.getElem?_push,if_neg (by omega)]
 obtain⟨sa,ea⟩:=zmE (w':=wa) s hka (by rw[hsa];omega) rfl rfl rfl
 obtain⟨sb,eb⟩:=zmw sa 1
 have hun:φ st.h.next= .unborn:=s.next _ (Nat.le_refl _)
 obtain⟨sc,ec⟩:=zko (sz:=0) (x:= .loop {regs:=st.r,params:=ps.toList,assign:=as,body:=bd,state:= .ready,pending:=none}) (o:= .loop rec0) sb hun (by show st.h.next<st.h.next+1;omega) (fun e1 h1=>
  ⟨rec0,U,nt,h1,trivial,trivial,rfl,has,hbd,hps,e1.rr (eb.rr (ea.rr hr))⟩)
 have ebc:=(ea.trans eb).trans ec
 let w1:=wa.alloc (.loop rec0)
 have hw1:({wa with heap:=wa.heap.push (.loop rec0)}:World)=w1:=rfl
 rw[hw1]at sc ec ebc
 have hrel:=ebc.rv (zsd hr hf)
 have hyl:Rel (φ.set st.h.next (.at wa.heap.size 0)) w1 (stab κ (φ.set st.h.next (.at wa.heap.size 0)) ((st.h.bump 1).put st.h.next (.loop {regs:=st.r,params:=ps.toList,assign:=as,body:=bd,state:= .ready,pending:=none}))) (.yld st.h.next) (.func (.yield wa.heap.size) #[] #[]):=
  .yld (.inr ⟨0,zaU _ _ _⟩)
 have hd:=happ κ _ _ w1 _ _ v H1 _ _ sc hrel (.cons hyl .nil) happ1
 cases hd with
 |yld l r h hl hs hc=>
  exfalso
  revert hfn hrel
  rw[h]
  generalize opd zdd st.r f=fv
  intro hfn hrel
  cases fv with
  |d x=>
   have:=hrel.d_inv
   cases this
  |clo f a b=>cases hrel
  |_=>simp[V.isFn]at hfn
 |fn f' first cap fn' hv hf' hname hb hc=>
  have hne:fn'.name≠ "runtime.NumGoroutine" :=by simpa using hname
  have hbn':fn'.body≠none:=fun hbb=>by rw[hbb]at hb;cases hb
  refine⟨w.heap.size+1,[{target:= .collected w.heap.size,args:= #[]}],w1,{target:= .fn (.func f') cap,args:=first++ #[.func (.yield wa.heap.size) #[] #[]]},w1,f',first++ #[.func (.yield wa.heap.size) #[] #[]]++cap,w1,run_enterLoop_outer fn a.tmps ps assign body,?_,fun _ _=>trivial,?_,fun h=>(by cases h),?_⟩
  ·simp only[resolve,rangeCall,hv,Deferred.ofValue,Sem.run_pure]
   rw[hsa];simp[Act.eval]
  ·simp[invoke,callFunc,hf',hne,hbn']
  ·refine CallsIn.mono (zhp.2 (by simpa using hc)) fun e1 w2 hp2=> ?_
   cases e1 with
   |panicked ch=>exact hp2.elim
   |outgrown=>exact hp2.elim
   |returned mv=>
    obtain⟨φ2,s2,e2,r2,u2⟩:=hp2
    have hblt:st.h.next<((st.h.bump 1).put st.h.next (.loop {regs:=st.r,params:=ps.toList,assign:=as,body:=bd,state:= .ready,pending:=none})).next:=by show st.h.next<st.h.next+1;omega
    cases hgb:H1.get st.h.next with
    |none=>have hx':=hx;rw[hgb]at hx';cases hx'
    |some blk=>
     have hx':=hx
     rw[hgb]at hx'
     cases blk with
     |loop L=>
      dsimp only at hx'
      split at hx'
      ·cases hx'
      rename_i hbusy
      obtain⟨m,sz,hφ2,hrb⟩:=s2.get hgb
      have hm:m=wa.heap.size:=by
       rcases e2.loc st.h.next (by rw[zaU];simp)with h|h
       ·rw[hφ2,zaU]at h;cases h;rfl
       ·rw[hφ2]at h;cases h
      subst hm
      obtain⟨r,U',nt',g1,g2,g3,g4,g5,g6,g7,g8⟩:=hrb
      have hrb':r.state≠.busy:=fun h=>by
       rw[h]at g2
       revert g2 hbusy
       cases L.state<;>simp[LSt.is]
      have hend:=run_endLoop (P:=P) g1 hrb'
      obtain⟨s3,e3⟩:=zmG (L':={L with state:= .exhausted}) (r':={r with state:= .exhausted}) s2 hφ2 hgb g1 (fun e1=>
       ⟨{r with state:= .exhausted},U',nt',World.putObj_heap_same (zfx g1),trivial,g3,g4,g5,g6,g7,e1.rr g8⟩)
      have eall:=(ebc.trans e2).trans e3
      have hmk:Marks lo φ2 ([{target:= .collected w.heap.size,args:= #[]}]++a.defers) (w2.putObj wa.heap.size (.loop {r with state:= .exhausted})):=by
       have h1:Marks lo φ ([{target:= .collected w.heap.size,args:= #[]}]++a.defers) wa:=hm.cons (Nat.le_refl _) hlo hka (World.alloc_heap_new w _) (fun b' sz hb'=>by
        have:=s.lt hb';omega)
       exact((h1.ext eb).ext ec|>.ext e2).ext e3
      have hub:∀b,b<st.h.next→φ b= .unborn→φ2 b= .unborn:=fun b hb hu=>u2 b (by show b<st.h.next+1;omega) (by rw[zaR _ _ (by omega)];exact hu)
      refine⟨r.pending,_,by rw[←hsa];exact hend,?_⟩
      simp only[Option.some.injEq]at hx'
      generalize hX:({r:=st.r,h:=H1.put st.h.next (.loop {L with state:= .exhausted})}:St)=X at hx'
      have hfin:∀a',a'=({a with defers:=[{target:= .collected w.heap.size,args:= #[]}]++a.defers}:Act)→X=st'→Q e.out a' (w2.putObj wa.heap.size (.loop {r with state:= .exhausted})):=fun a' ha' hXs=>by
       subst hXs;subst hX;subst ha'
       exact hQ _ _ φ2 s3 eall (eall.rr hr) hmk hub
      cases hpd:L.pending with
      |none=>
       rw[hpd]at hx' g3
       simp only[Prod.mk.injEq]at hx'
       obtain⟨rfl,rfl⟩:=hx'
       cases hrp:r.pending with
       |some cd=>rw[hrp]at g3;exact g3.elim
       |none=>
        have:=hfin _ rfl rfl
        rw[hrp]at this
        exact this
      |some j=>
       rw[hpd]at hx' g3
       simp only[Prod.mk.injEq]at hx'
       obtain⟨rfl,rfl⟩:=hx'
       cases hrp:r.pending with
       |none=>rw[hrp]at g3;cases j<;>exact g3.elim
       |some cd=>
        rw[hrp]at g3
        have:=hfin _ rfl rfl
        rw[hrp]at this
        cases j with
        |ret=>
         cases cd<;>first|exact g3.elim|skip
         exact wpIn_ret this
        |exit i=>
         cases cd<;>first|exact g3.elim|skip
         have hi:i=_:=g3
         subst hi
         exact wpIn_exit this
     |_=>cases hx'
theorem zff (happ:zli T P sh app) {inR:Bool} (hro:inR=false→ro=none):∀(x:Code) (c:C),zcN P U nt sh inR x=some c→zsc T P sh U nt lo ro x (zbw app sh n c)
 | .skip,c,hp=>fun κ φ w st st' e a Q hx s hr hm hlo hQ=>by
  simp only[zcN,Option.some.injEq]at hp;subst hp
  simp only[zbw,Option.some.injEq,Prod.mk.injEq]at hx
  obtain⟨rfl,rfl⟩:=hx
  exact wpIn_skip (hQ a w φ s .refl hr hm fun _ _ h=>h)
 | .region id ops draw,c,hp=>fun κ φ w st st' e a Q hx s hr hm hlo hQ=>by
  refine zxx happ hp hx s hr fun a' w' φ' he s1 e1 r1 d1 u1=> ?_
  subst he
  exact hQ a' w' φ' s1 e1 r1 (by rw[d1];exact hm.ext e1) u1
 | .seq x y,c,hp=>fun κ φ w st st' e a Q hx s hr hm hlo hQ=>by
  simp only[zcN]at hp
  obtain⟨c1,h1,hp⟩:=zas hp
  obtain⟨c2,h2,rfl⟩:=zaw hp
  simp only[zbw]at hx
  cases hf:zbw app sh n c1 st with
  |none=>rw[hf]at hx;cases hx
  |some p=>
   obtain⟨ex,st1⟩:=p
   rw[hf]at hx
   refine wpIn_seq (zff happ hro x c1 h1 κ φ w st st1 ex a _ hf s hr hm hlo fun a1 w1 φ1 s1 e1 r1 m1 u1=> ?_)
   cases ex with
   |normal=>exact zff happ hro y c2 h2 κ φ1 w1 st1 st' e a1 Q hx s1 r1 m1 (Nat.le_trans hlo e1.size) (hQ.trans e1 u1)
   |exit id=>
    simp only[Option.some.injEq,Prod.mk.injEq]at hx
    obtain⟨rfl,rfl⟩:=hx
    exact hQ a1 w1 φ1 s1 e1 r1 m1 u1
   |ret=>
    simp only[Option.some.injEq,Prod.mk.injEq]at hx
    obtain⟨rfl,rfl⟩:=hx
    exact hQ a1 w1 φ1 s1 e1 r1 m1 u1
 | .cond x y z,c,hp=>fun κ φ w st st' e a Q hx s hr hm hlo hQ=>by
  simp only[zcN]at hp
  obtain⟨c0,h0,hp⟩:=zas hp
  obtain⟨c1,h1,hp⟩:=zas hp
  obtain⟨c2,h2,rfl⟩:=zaw hp
  simp only[zbw]at hx
  have hrel:=zsd hr h0
  split at hx
  ·rename_i hc
   rw[hc]at hrel
   have hev:=hrel.d_inv
   have:a.eval x= .bool true:=by revert hev;generalize a.eval x=mv;intro hev;cases hev;rfl
   exact wpIn_cond_true this (zff happ hro y c1 h1 κ φ w st st' e a Q hx s hr hm hlo hQ)
  ·rename_i hc
   rw[hc]at hrel
   have hev:=hrel.d_inv
   have:a.eval x= .bool false:=by revert hev;generalize a.eval x=mv;intro hev;cases hev;rfl
   exact wpIn_cond_false this (zff happ hro z c2 h2 κ φ w st st' e a Q hx s hr hm hlo hQ)
  ·cases hx
 | .block id x,c,hp=>fun κ φ w st st' e a Q hx s hr hm hlo hQ=>by
  simp only[zcN]at hp
  obtain⟨c1,h1,rfl⟩:=zaw hp
  simp only[zbw]at hx
  cases hf:zbw app sh n c1 st with
  |none=>rw[hf]at hx;cases hx
  |some p=>
   obtain⟨ex,st1⟩:=p
   rw[hf]at hx
   refine wpIn_block (zff happ hro x c1 h1 κ φ w st st1 ex a _ hf s hr hm hlo fun a1 w1 φ1 s1 e1 r1 m1 u1=> ?_)
   cases ex with
   |normal=>
    simp only[Option.some.injEq,Prod.mk.injEq]at hx
    obtain⟨rfl,rfl⟩:=hx
    exact hQ a1 w1 φ1 s1 e1 r1 m1 u1
   |ret=>
    simp only[Option.some.injEq,Prod.mk.injEq]at hx
    obtain⟨rfl,rfl⟩:=hx
    exact hQ a1 w1 φ1 s1 e1 r1 m1 u1
   |exit id'=>
    simp only[Ex.out,Exit.inBlock]
    by_cases hid:id'=id
    ·simp only[hid,if_true,Option.some.injEq,Prod.mk.injEq]at hx
     obtain⟨rfl,rfl⟩:=hx
     rw[if_pos hid]
     exact hQ a1 w1 φ1 s1 e1 r1 m1 u1
    ·simp only[hid,if_false,Option.some.injEq,Prod.mk.injEq]at hx
     obtain⟨rfl,rfl⟩:=hx
     rw[if_neg hid]
     exact hQ a1 w1 φ1 s1 e1 r1 m1 u1
 | .loop x,c,hp=>by
  simp only[zcN]at hp
  obtain⟨c1,h1,rfl⟩:=zaw hp
  intro κ φ w st st' e a Q hx
  simp only[zbw]at hx
  exact zGi (zff happ hro x c1 h1) n κ φ w st st' e a Q hx
 | .rangeFunc g ps x y,c,hp=>zoB happ hro hp
 | .exit id,c,hp=>fun κ φ w st st' e a Q hx s hr hm hlo hQ=>by
  simp only[zcN,Option.some.injEq]at hp;subst hp
  simp only[zbw,Option.some.injEq,Prod.mk.injEq]at hx
  obtain⟨rfl,rfl⟩:=hx
  exact wpIn_exit (hQ a w φ s .refl hr hm fun _ _ h=>h)
 | .ret,c,hp=>fun κ φ w st st' e a Q hx s hr hm hlo hQ=>by
  simp only[zcN,Option.some.injEq]at hp;subst hp
  simp only[zbw,Option.some.injEq,Prod.mk.injEq]at hx
  obtain⟨rfl,rfl⟩:=hx
  exact wpIn_ret (hQ a w φ s .refl hr hm fun _ _ h=>h)
 | .scope x,c,hp=>by simp[zcN]at hp
 | .label l,c,hp=>by simp[zcN]at hp
 | .goto l,c,hp=>by simp[zcN]at hp
 | .refuse y,c,hp=>by simp[zcN]at hp
end
end Go.AI
namespace Go.AI
variable {P:Program} {sh:FuncId→Bool} {T:Tabs} {κ:Ctx T} {φ φ':Place} {H H':Heap} {w w' w'':World} {S S':Nat→Nat→Prop}
def zug (tmps:Array Value):ResultVar→Sem Value
 | .tmp t=>pure (tmps.getD t undef)
 | .cell a t=>do loadVar t (←asAddr (tmps.getD a undef))
theorem zuh (fn:Func) (tmps:Array Value):results fn tmps=(do let vs←fn.results.mapM (zug tmps);pure (if h:vs.size=1 then vs[0]else .tuple vs)):=by
 unfold results
 have:(fun x:ResultVar=>match x with
  | .tmp t=>(pure (tmps.getD t undef):Sem Value)
  | .cell a t=>do loadVar t (←asAddr (tmps.getD a undef)))=zug tmps:=by
  funext x;cases x<;>rfl
 rw[←this];rfl
theorem zgT {U:Nat→Bool} {nt:Nat} {st:St} {tmps:Array Value} (s:Sim P sh κ φ st.h w) (hr:RR φ w (stab κ φ st.h) U nt st.r tmps):∀(rs:List ResultVar) (l:List RV),zgC P U nt rs=some l→∀vs,zaY st l=some vs→
 ∃ms,(rs.mapM (zug tmps)).run P w= .ok ms w∧Args φ w (stab κ φ st.h) vs ms
 |[],l,hp,vs,hv=>by
  simp only[zgC,Option.some.injEq]at hp;subst hp
  simp only[zaY,Option.some.injEq]at hv;subst hv
  exact⟨[],by simp,.nil⟩
 | .tmp t::rs,l,hp,vs,hv=>by
  simp only[zgC]at hp
  split at hp
  case isFalse=>cases hp
  rename_i hu
  simp only[Bool.and_eq_true,decide_eq_true_eq]at hu
  obtain⟨l',h1,rfl⟩:=zaw hp
  simp only[zaY]at hv
  obtain⟨vs',h2,rfl⟩:=zaw hv
  obtain⟨ms,h3,h4⟩:=zgT s hr rs l' h1 vs' h2
  refine⟨tmps.getD t undef::ms,?_,.cons (hr.2 t hu.1 hu.2) h4⟩
  simp only[List.mapM_cons,zug,Sem.run_bind,Sem.run_pure,Result.andThen_ok,h3]
 | .cell a t::rs,l,hp,vs,hv=>by
  simp only[zgC]at hp
  split at hp
  case isFalse=>cases hp
  rename_i hu
  simp only[Bool.and_eq_true,decide_eq_true_eq]at hu
  obtain⟨n,h0,hp⟩:=zas hp
  obtain⟨l',h1,rfl⟩:=zaw hp
  simp only[zaY]at hv
  obtain⟨v,hv0,hv⟩:=zas hv
  obtain⟨vs',h2,rfl⟩:=zaw hv
  obtain⟨ms,h3,h4⟩:=zgT s hr rs l' h1 vs' h2
  obtain⟨ad,mv,e1,e2,e3⟩:=zwV s hv0 (hr.2 a hu.1 hu.2) h0
  refine⟨mv::ms,?_,.cons e3 h4⟩
  simp only[List.mapM_cons,zug,Sem.run_bind,e1,asAddr,Sem.run_pure,Result.andThen_ok,e2,h3]
theorem zui {U:Nat→Bool} {nt:Nat} {st:St} {tmps:Array Value} (s:Sim P sh κ φ st.h w) (hr:RR φ w (stab κ φ st.h) U nt st.r tmps) {fn:Func} {l:List RV} (hp:zgC P U nt fn.results.toList=some l) {vs:List V} (hv:zaY st l=some vs):
 ∃mv,(results fn tmps).run P w= .ok mv w∧Rel φ w (stab κ φ st.h) (oneOr vs) mv:=by
 obtain⟨ms,h1,h2⟩:=zgT s hr _ _ hp vs hv
 rw[zuh]
 have h3:(fn.results.mapM (zug tmps)).run P w= .ok ms.toArray w:=by
  rw[Array.mapM_eq_mapM_toList,Sem.run_map,h1];rfl
 simp only[Sem.run_bind,h3,Result.andThen_ok,Sem.run_pure]
 refine⟨_,rfl,?_⟩
 obtain⟨a1,a2⟩:=zjy h2
 cases h2 with
 |nil=>
  have hne:¬(([]:List Value)).toArray.size=1:=by simp
  rw[dif_neg hne]
  exact zeZ (cs:=[]) (vs:= #[]) rfl (fun j x v hx _=>by cases j<;>cases hx)
 |cons hr0 h2=>
  cases h2 with
  |nil=>exact hr0
  |cons hr1 h2=>
   rename_i x v x' v' l' m'
   have hne:¬(v::v'::m').toArray.size=1:=by simp
   rw[dif_neg hne]
   refine zeZ (by simpa using a1) fun j y u hy hu=> ?_
   have:=a2 j y hy
   have h5:(v::v'::m').getD j undef=u:=by
    have:(v::v'::m')[j]? =some u:=by simpa using hu
    rw[List.getD_eq_getElem?_getD,this];rfl
   rwa [h5]at this
theorem RB.keep (hl:∀b,φ b≠.unborn→φ' b=φ b∨φ' b= .dead) (hc:∀m o v,S m o→w.cell? ⟨m,o,none⟩=some v→S' m o∧w'.cell? ⟨m,o,none⟩=some v) (hs:∀m t k,w.shape? m=some (t,k)→w'.shape? m=some (t,k))
 {m sz:Nat} (hm:w'.heap[m]? =w.heap[m]?) {x:Blk} (h:RB P sh φ w S m sz x):RB P sh φ' w' S' m sz x:=by
 cases x with
 |els z l fz=>
  obtain⟨h0,h1,cs,t,h2,h3,h4⟩:=h
  exact⟨h0,h1,cs,t,hm.trans h2,h3,fun i e' he=>let⟨h5,h6⟩:=h4 i e' he;⟨h5,fun j x v hx hv=>(h6 j x v hx hv).mono hl hc hs⟩⟩
 |map es clock=>
  obtain⟨mes,h1,h2,h3,h4⟩:=h
  exact⟨mes,hm.trans h1,h2,fun i e' me h5 h6=>let⟨a,b,c,d⟩:=h3 i e' me h5 h6;⟨a.mono hc,b.mono hl hc hs,c,d⟩,h4⟩
 |it s pos=>obtain⟨s',h1,h2⟩:=h;exact⟨s',hm.trans h1,h2⟩
 |loop L=>
  obtain⟨r,U,nt,h1,h2,h3,h4,h5,h6,h7,h8⟩:=h
  exact⟨r,U,nt,hm.trans h1,h2,h3,h4,h5,h6,h7,h8.1,fun t hu ht=>(h8.2 t hu ht).mono hl hc hs⟩
theorem zCf (s:Sim P sh κ φ H w) {b:Nat} {ds:Option (List Deferred)} {o:Option (List Deferred)} (hb:w.heap[b]? =some (.deferred ds)) (hu:∀b' sz,φ b'≠.at b sz):
 Sim P sh κ φ H (w.putObj b (.deferred o))∧(∀m k v,w.cell? ⟨m,k,none⟩=some v→(w.putObj b (.deferred o)).cell? ⟨m,k,none⟩=some v)∧∀m t k,w.shape? m=some (t,k)→(w.putObj b (.deferred o)).shape? m=some (t,k):=by
 have hlt:=zfx hb
 have hother:∀m,m≠b→(w.putObj b (.deferred o)).heap[m]? =w.heap[m]? :=fun m hm=>World.putObj_heap_other hm
 have hc:∀m k v,w.cell? ⟨m,k,none⟩=some v→(w.putObj b (.deferred o)).cell? ⟨m,k,none⟩=some v:=fun m k v h=>by
  have hm:m≠b:=fun hm=>by subst hm;simp[World.cell?,hb]at h
  exact(cell_of (hother m hm)).trans h
 have hs:∀m t k,w.shape? m=some (t,k)→(w.putObj b (.deferred o)).shape? m=some (t,k):=fun m t k h=>by
  have hm:m≠b:=fun hm=>by subst hm;simp[World.shape?,hb]at h
  rw[zhm (hother m hm)];exact h
 refine⟨⟨by rw[World.putObj_size];exact s.base,fun c m sz hφ=> ?_,s.live,s.next,s.inj,s.tab.mono fun m o v h h'=>⟨h,hc m o v h'⟩⟩,hc,hs⟩
 obtain⟨h1,x,h2,h3⟩:=s.blk c m sz hφ
 exact⟨h1,x,h2,h3.keep (fun _ _=> .inl rfl) (fun m o v h h'=>⟨h,hc m o v h'⟩) hs (hother m fun hm=>hu c sz (hm▸hφ))⟩
theorem zgU {U:Nat→Bool} {nt:Nat} {fn:Func} {l:List RV} (hp:zgC P U nt fn.results.toList=some l) {st:St} {vs:List V} (hv:zaY st l=some vs) {tmps:Array Value} {φ0:Place} {H0:Heap} {w0:World} (hub:∀b,b<H0.next→φ0 b= .unborn→φ b= .unborn):
 ∀(bs:List Nat) (w:World),Sim P sh κ φ st.h w→Ext κ φ0 H0 w0 φ st.h w→RR φ w (stab κ φ st.h) U nt st.r tmps→bs.Nodup→(∀b∈bs,w0.heap.size≤b∧w.heap[b]? =some (.deferred (some []))∧∀b' sz,φ b'≠.at b sz)→
  LeavesInM Fence.wide 0 P fn tmps (zfd P sh κ φ0 H0 w0 (oneOr vs) st.h) (bs.map fun b=>{target:= .collected b,args:= #[]}) .returning w
 |[],w,s,e,hr,_,_=>by
  obtain⟨mv,h1,h2⟩:=zui s hr hp hv
  exact⟨mv,h1,φ,s,e,h2,hub⟩
 |b::bs,w,s,e,hr,hn,hb=>by
  obtain⟨a1,a2,a3⟩:=hb b (by simp)
  have hn':=List.nodup_cons.1 hn
  obtain⟨s1,hc,hs⟩:=zCf (o:=none) s a2 a3
  have hother:∀m,m≠b→(w.putObj b (.deferred none)).heap[m]? =w.heap[m]? :=fun m hm=>World.putObj_heap_other hm
  refine⟨by simp,.inl ⟨b,_,rfl,run_takeDeferred a2,?_⟩⟩
  refine zgU hp hv hub bs _ s1 ?_ ?_ hn'.2 fun c hc=> ?_
  ·exact⟨e.loc,fun m o v h h'=>let⟨h1,h2⟩:=e.cell m o v h h';⟨h1,hc m o v h2⟩,fun m hm h=>let⟨h1,h2⟩:=e.frame m hm h;⟨(hother m (by omega)).trans h1,h2⟩,by rw[World.putObj_size];exact e.size,
    e.os,e.tape,e.output,fun m t k h=>hs m t k (e.shape m t k h),e.next⟩
  ·exact⟨hr.1,fun t hu ht=>(hr.2 t hu ht).mono (fun _ _=> .inl rfl) (fun m o v h h'=>⟨h,hc m o v h'⟩) hs⟩
  ·obtain⟨b1,b2,b3⟩:=hb c (by simp[hc])
   exact⟨b1,(hother c fun h=>hn'.1 (h▸hc)).trans b2,b3⟩
theorem lt_of_cell {w:World} {m o:Nat} {v:Value} (h:w.cell? ⟨m,o,none⟩=some v):m<w.heap.size:=by
 rcases Nat.lt_or_ge m w.heap.size with h1|h1
 ·exact h1
 ·simp[World.cell?,Array.getElem?_eq_none h1]at h
def PrimOk (T:Tabs) (P:Program) (f:FuncId) (p:List D→Option D):Prop:=
 ∃fn,P.funcs[f]? =some fn∧(fn.name== "runtime.NumGoroutine")=false∧fn.body.isSome=true∧∀(w:World) (S:Nat→Nat→Prop) (ds:List D) (margs:List Value) (x:D),Met T S w→margs.length=ds.length→(∀(j:Nat) y,ds[j]? =some y→RD w S y (margs.getD j undef))→
  (∀m o,S m o→m<w.heap.size)→p ds=some x→CallsIn Fence.wide 0 P f margs.toArray w fun e w'=>match e with
   | .returned mv=>(∀m,m<w.heap.size→w'.heap[m]? =w.heap[m]?)∧w.heap.size≤w'.heap.size∧w'.os=w.os∧w'.tape=w.tape∧w'.output=w.output∧RD w' (fun m o=>S m o∨(w.heap.size≤m∧m<w'.heap.size)) x mv
   |_=>False
structure Linked (T:Tabs) (A:AProg) (P:Program):Prop where
 fn:∀f a,A.prim f=none→A.fns f=some a→∃fn,P.funcs[f]? =some fn∧prepF P A.sh fn=some a∧(fn.name== "runtime.NumGoroutine")=false
 prim:∀f p,A.prim f=some p→PrimOk T P f p
theorem zuj {fn:Func} {a:AFn} (h:prepF P sh fn=some a):∃U c body,fn.body=some body∧zcN P U fn.ntmps sh false body=some c∧zgC P U fn.ntmps fn.results.toList=some a.results∧a.body=c:=by
 unfold prepF at h
 obtain⟨a0,_,h⟩:=zas h
 dsimp only at h
 unfold zmo at h
 obtain⟨body,h1,h⟩:=zas h
 obtain⟨c,h2,h⟩:=zas h
 obtain⟨rs,h3,rfl⟩:=zaw h
 exact⟨_,c,body,h1,h2,h3,rfl⟩
variable {A:AProg} {app:App} {n:Nat}
theorem zmH (hL:Linked T A P) (happ:zli T P A.sh app) {f:FuncId} {args:List V} {margs:List Value} (s:Sim P A.sh κ φ H w) (ha:Args φ w (stab κ φ H) args margs) {v:V} (h:zfr A app n f args H=some (v,H')):
 ∃fn,P.funcs[f]? =some fn∧(fn.name== "runtime.NumGoroutine")=false∧fn.body.isSome=true∧CallsIn Fence.wide 0 P f margs.toArray w (zfd P A.sh κ φ H w v H'):=by
 unfold zfr at h
 cases hpr:A.prim f with
 |some p=>
  rw[hpr]at h
  obtain⟨ds,h1,h⟩:=zas h
  obtain⟨x,h2,h3⟩:=zaw h
  simp only[Prod.mk.injEq]at h3
  obtain⟨rfl,rfl⟩:=h3
  have:=zdE h1
  subst this
  obtain⟨fn,g1,g2,g3,g4⟩:=hL.prim f p hpr
  obtain⟨a1,a2⟩:=zjy ha
  refine⟨fn,g1,g2,g3,(g4 w (fun m o=>stab κ φ H m o∧m<w.heap.size) ds margs x (s.tab.mono fun m o v hs hc=>⟨⟨hs,lt_of_cell hc⟩,hc⟩) (by simpa using a1) (fun j y hy=> ?_) (fun m o h=>h.2) h2).mono fun e w' hp=> ?_⟩
  ·have:=(a2 j (.d y) (by simp[hy])).d_inv
   refine this.mono fun m o v hs hc=>⟨⟨hs,?_⟩,hc⟩
   rcases Nat.lt_or_ge m w.heap.size with h1|h1
   ·exact h1
   ·simp[World.cell?,Array.getElem?_eq_none h1]at hc
  ·cases e with
   |panicked c=>exact hp.elim
   |outgrown=>exact hp.elim
   |returned mv=>
    obtain⟨k1,k2,k3,k4,k5,k6⟩:=hp
    obtain⟨s1,e1⟩:=zmE s k1 k2 k3 k4 k5
    refine⟨φ,s1,e1,.d (k6.mono fun m o v hs hc=>⟨?_,hc⟩),fun _ _ h=>h⟩
    rcases hs with hs|hs
    ·exact hs.1
    ·refine⟨fun hB=> ?_,fun b sz hb=> ?_⟩
     ·have:=s.base;omega
     ·have:=s.lt hb;omega
 |none=>
  rw[hpr]at h
  dsimp only at h
  obtain⟨a,h1,h⟩:=zas h
  obtain⟨fn,g1,g2,g3⟩:=hL.fn f a hpr h1
  obtain⟨U,c,body,b1,b2,b3,b4⟩:=zuj g2
  refine⟨fn,g1,g3,by rw[b1];rfl,?_⟩
  obtain⟨a1,a2⟩:=zjy ha
  cases hx:zbw app A.sh n a.body {r:=fun i=>args.getD i .undef,h:=H}with
  |none=>rw[hx]at h;cases h
  |some q=>
   obtain⟨e,st'⟩:=q
   rw[hx]at h
   rw[b4]at hx
   refine callsIn_of_wp_marks g1 b1 trivial ?_
   refine zff (lo:=w.heap.size) (ro:=none) happ (fun _=>rfl) body c b2 κ φ w {r:=fun i=>args.getD i .undef,h:=H} st' e _ _ hx s ?_ Marks.nil (Nat.le_refl _) ?_
   ·refine⟨by simp;omega,fun t _ ht=> ?_⟩
    show Rel φ w (stab κ φ H) (args.getD t .undef) _
    cases hat:args[t]? with
    |none=>rw[List.getD_eq_getElem?_getD,hat];exact .undef _
    |some x=>
     rw[List.getD_eq_getElem?_getD,hat]
     have:=a2 t x hat
     have hlt:t<margs.length:=by have:=zav hat;omega
     have h5:(margs.toArray++Array.replicate (fn.ntmps-margs.toArray.size) undef).getD t undef=margs.getD t undef:=by
      simp[Array.getD,hlt,Array.getElem_append,List.getD_eq_getElem?_getD]
      omega
     rw[h5];exact this
   ·intro a' w' φ' s1 e1 r1 m1 u1
    obtain⟨bs,d1,d2,d3⟩:=m1
    cases e with
    |exit id=>cases h
    |normal=>
     obtain⟨vs,hv,h2⟩:=zaw h
     simp only[Prod.mk.injEq]at h2
     obtain⟨rfl,rfl⟩:=h2
     have:=zgU b3 hv u1 bs w' s1 e1 r1 d2 d3
     rw[←d1]at this
     exact this
    |ret=>
     obtain⟨vs,hv,h2⟩:=zaw h
     simp only[Prod.mk.injEq]at h2
     obtain⟨rfl,rfl⟩:=h2
     have:=zgU b3 hv u1 bs w' s1 e1 r1 d2 d3
     rw[←d1]at this
     exact this
theorem zoC {U:Nat→Bool} {nt:Nat}:∀(ps:List Nat) (args:List V) (margs:List Value) (r r':Regs) (tmps:Array Value),(∀t∈ps,t<nt)→zbh ps args r=some r'→Args φ w S args margs→RR φ w S U nt r tmps→
 margs.length=ps.length∧RR φ w S U nt r' ((ps.zip margs).foldl (fun tmps x=>tmps.setIfInBounds x.1 x.2) tmps)
 |[],[],_,r,r',tmps,_,h,ha,hr=>by
  cases ha
  simp only[zbh,Option.some.injEq]at h;subst h
  exact⟨rfl,hr⟩
 |t::ps,x::args,_,r,r',tmps,hps,h,ha,hr=>by
  cases ha with
  |cons hx ha=>
   rename_i v m
   simp only[zbh]at h
   obtain⟨h1,h2⟩:=zoC ps args m _ r' (tmps.setIfInBounds t v) (fun k hk=>hps k (by simp[hk])) h ha ⟨by simpa using hr.1,fun k hu hk=>by
    by_cases hkt:k=t
    ·subst hkt
     have hlt:k<tmps.size:=Nat.lt_of_lt_of_le hk hr.1
     have h5:(tmps.setIfInBounds k v).getD k undef=v:=by simp[Array.getD,hlt]
     rw[h5];simpa[Regs.set]using hx
    ·have hlt:k<tmps.size:=Nat.lt_of_lt_of_le hk hr.1
     have h5:(tmps.setIfInBounds t v).getD k undef=tmps.getD k undef:=by simp[Array.getD,hlt,Array.getElem_setIfInBounds,Ne.symm hkt]
     have h6:(r.set t x) k=r k:=by
      have:(k==t)=false:=by simpa using hkt
      simp[Regs.set,this]
     rw[h5,h6];exact hr.2 k hu hk⟩
   exact⟨by simp[h1],h2⟩
 |[],_::_,_,_,_,_,_,h,_,_=>by simp[zbh]at h
 |_::_,[],_,_,_,_,_,h,_,_=>by simp[zbh]at h
theorem zCg (happ:zli T P sh app) {b:Nat} {args:List V} {margs:List Value} {mf:Value} (s:Sim P sh κ φ H w) (hf:Rel φ w (stab κ φ H) (.yld b) mf) (ha:Args φ w (stab κ φ H) args margs) {v:V} (h:round app sh n b args H=some (v,H')):
 Does P w mf margs (zfd P sh κ φ H w v H'):=by
 unfold round at h
 cases hgb:H.get b with
 |none=>rw[hgb]at h;cases h
 |some blk=>
  rw[hgb]at h
  cases blk with
  |els z l fz=>cases h
  |map es c=>cases h
  |it s p=>cases h
  |loop L=>
   dsimp only at h
   obtain⟨rg,h1,h⟩:=zas h
   obtain⟨m,sz,hφ,hrb⟩:=s.get hgb
   obtain⟨r,U,nt,g1,g2,g3,g4,g5,g6,g7,g8⟩:=hrb
   cases hf with
   |yld hφ'=>
   rename_i m'
   have hmm:m'=m:=by
    rcases hφ' with h|⟨sz',h⟩
    ·rw[h]at hφ;cases hφ
    ·rw[h]at hφ;cases hφ;rfl
   subst hmm
   obtain⟨p1,p2⟩:=zoC L.params args margs _ rg r.tmps g7 h1 ha g8
   rw[g4]at p1 p2
   cases hx:zbw app sh n L.assign {r:=rg,h:=H}with
   |none=>rw[hx]at h;cases h
   |some q=>
    obtain⟨e,st⟩:=q
    rw[hx]at h
    cases e with
    |exit i=>cases h
    |ret=>cases h
    |normal=>
     dsimp only at h
     refine .yld m' r rfl g1 (by simpa using p1) (roundIn_of_wpIn trivial ?_)
     have htm:(r.params.zip margs.toArray).foldl (fun tmps (x:Nat×Value)=>tmps.setIfInBounds x.1 x.2) r.tmps=(r.params.toList.zip margs).foldl (fun tmps x=>tmps.setIfInBounds x.1 x.2) r.tmps:=by
      rw[←Array.foldl_toList];simp
     refine zff (lo:=0) (ro:=some m') (nt:=nt) (U:=U) happ (fun h=>by cases h) r.assign L.assign g5 κ φ w {r:=rg,h:=H} st .normal _ _ hx s (by rw[←htm]at p2;exact p2) Marks.nil (Nat.zero_le _) ?_
     intro a1 w1 φ1 s1 e1 r1 _ u1
     have at1:∀{φ2:Place} {H2:Heap} {w2:World},Ext κ φ H w φ2 H2 w2→∀{mm ss},φ2 b= .at mm ss→mm=m'∧ss=sz:=fun e2 mm ss h2=>by
      rcases e2.loc b (by rw[hφ];simp)with h|h
      ·rw[h2,hφ]at h;cases h;exact⟨rfl,rfl⟩
      ·rw[h2]at h;cases h
     cases hgb1:st.h.get b with
     |none=>rw[hgb1]at h;cases h
     |some blk1=>
      rw[hgb1]at h
      cases blk1 with
      |els z l fz=>cases h
      |map es c=>cases h
      |it s p=>cases h
      |loop L1=>
       dsimp only at h
       split at h
       case isFalse=>cases h
       rename_i hready
       obtain⟨⟨e2,st2⟩,h2,h⟩:=zas h
       dsimp only at h
       obtain⟨m1,sz1,hφ1,hrb1⟩:=s1.get hgb1
       obtain⟨rfl,rfl⟩:=at1 e1 hφ1
       obtain⟨r1',U1,nt1,q1,q2,q3,q4,q5,q6,q7,q8⟩:=hrb1
       have hr1:r1'.state= .ready:=by
        rw[hready]at q2
        revert q2
        cases r1'.state<;>simp[LSt.is]
       refine⟨_,run_beginRound q1 hr1,?_⟩
       obtain⟨s2,e3⟩:=zmG (L':={L1 with state:= .busy}) (r':={r1' with state:= .busy}) s1 hφ1 hgb1 q1 (fun e1=>⟨{r1' with state:= .busy},U1,nt1,World.putObj_heap_same (zfx q1),trivial,q3,q4,q5,q6,q7,e1.rr q8⟩)
       refine zff (lo:=0) (ro:=some m1) (nt:=nt) (U:=U) happ (fun h=>by cases h) r.body L.body g6 κ φ1 _ {r:=st.r,h:=st.h.put b (.loop {L1 with state:= .busy})} st2 e2 a1 _ h2 s2 (e3.rr r1) (by
        obtain⟨bs,hh⟩:∃bs,Marks 0 φ1 bs w1:=⟨[],Marks.nil⟩
        exact(by assumption:Marks 0 φ1 a1.defers w1).ext e3) (Nat.zero_le _) ?_
       intro a3 w3 φ3 s3 e4 r3 _ u3
       have eAll:=(e1.trans e3).trans e4
       cases hgb3:st2.h.get b with
       |none=>rw[hgb3]at h;cases h
       |some blk3=>
        rw[hgb3]at h
        cases blk3 with
        |els z l fz=>cases h
        |map es c=>cases h
        |it s p=>cases h
        |loop L3=>
         dsimp only at h
         simp only[Option.some.injEq,Prod.mk.injEq]at h
         obtain⟨hv,hH⟩:=h
         obtain⟨m3,sz3,hφ3,hrb3⟩:=s3.get hgb3
         obtain⟨rfl,rfl⟩:=at1 eAll hφ3
         obtain⟨r3',U3,nt3,t1,t2,t3,t4,t5,t6,t7,t8⟩:=hrb3
         have fin:∀(j:Option Jump) (mj:Option Code),Jump.is j mj→v= .d (.bool j.isNone)→H'=st2.h.put b (.loop {L3 with state:=if j.isNone then .ready else .done,pending:=j})→
          ∃vv ww,(Instr.endRound m3 mj).run P w3= .ok vv ww∧zfd P sh κ φ H w v H' (.returned vv) ww:=by
          intro j mj hj hv hH
          subst hv;subst hH
          have hji:mj.isNone=j.isNone:=by
           cases j with
           |none=>cases mj with
            |none=>rfl
            |some c=>exact hj.elim
           |some x=>cases mj with
            |none=>cases x<;>exact hj.elim
            |some c=>rfl
          refine⟨_,_,run_endRound mj t1,φ3,?_⟩
          obtain⟨s4,e5⟩:=zmG (L':={L3 with state:=if j.isNone then .ready else .done,pending:=j}) (r':={r3' with state:=if mj.isNone then .ready else .done,pending:=mj}) s3 hφ3 hgb3 t1 (fun e1=>
           ⟨{r3' with state:=if mj.isNone then .ready else .done,pending:=mj},U3,nt3,World.putObj_heap_same (zfx t1),by rw[hji];cases j.isNone<;>trivial,hj,t4,t5,t6,t7,e1.rr t8⟩)
          exact⟨s4,eAll.trans e5,by rw[hji];exact .d (.bool _),fun c hc hu=>u3 c (Nat.lt_of_lt_of_le hc e1.next) (u1 c hc hu)⟩
         cases e2 with
         |normal=>exact fin none none trivial hv.symm hH.symm
         |ret=>exact fin (some .ret) (some .ret) trivial hv.symm hH.symm
         |exit i=>exact fin (some (.exit i)) (some (.exit i)) rfl hv.symm hH.symm
theorem Args.append {l l':List V} {m m':List Value} (h:Args φ w S l m) (h':Args φ w S l' m'):Args φ w S (l++l') (m++m'):=by
 induction h with
 |nil=>exact h'
 |cons hr _ ih=>exact .cons hr ih
theorem zmI:∀{l:List V} {m:List Value},m.length=l.length→(∀(j:Nat) x v,l[j]? =some x→m[j]? =some v→Rel φ w S x v)→Args φ w S l m
 |[],[],_,_=> .nil
 |x::l,v::m,hl,h=> .cons (h 0 x v rfl rfl) (zmI (by simpa using hl) fun j y u hy hu=>h (j+1) y u (by simpa using hy) (by simpa using hu))
 |[],_::_,hl,_=>by simp at hl
 |_::_,[],hl,_=>by simp at hl
theorem zxy (hL:Linked T A P):∀n,zli T P A.sh (zeq A n)
 |0=>fun κ φ H w fv args v H' mf margs s hf ha h=>by simp[zeq]at h
 |n+1=>fun κ φ H w fv args v H' mf margs s hf ha h=>by
  have ih:=zxy hL n
  simp only[zeq]at h
  split at h
  ·rename_i f
   obtain⟨fn,h1,h2,h3,h4⟩:=zmH hL ih s ha h
   cases hf with
   |d hd=>
    cases hd
    exact .fn f #[] #[] fn rfl h1 h2 h3 (by simpa using h4)
  ·rename_i f first cap
   cases hf with
   |clo hs hh ht hh'=>
    rename_i vs us
    have ha':Args φ w (stab κ φ H) (first++args++cap) (vs.toList++margs++us.toList):=
     ((zmI (by simpa using hs) fun j x v hx hv=>hh j x v hx (by simpa using hv)).append ha).append (zmI (by simpa using ht) fun j x v hx hv=>hh' j x v hx (by simpa using hv))
    obtain⟨fn,h1,h2,h3,h4⟩:=zmH hL ih s ha' h
    refine .fn f vs us fn rfl h1 h2 h3 ?_
    have he:(vs.toList++margs++us.toList).toArray=vs++margs.toArray++us:=by simp
    rw[he]at h4;exact h4
  ·rename_i b
   exact zCg ih s hf ha h
  ·cases h
theorem zOd (hL:Linked T A P) {f:FuncId} {ds:List D} {x:D} (h:pc A f ds=some x) {S:Nat→Nat→Prop} (hT:Met T S w) {margs:List Value} (hl:margs.length=ds.length) (ha:∀(j:Nat) y,ds[j]? =some y→RD w S y (margs.getD j undef)):
 ∃fn,P.funcs[f]? =some fn∧(fn.name== "runtime.NumGoroutine")=false∧fn.body.isSome=true∧CallsIn Fence.wide 0 P f margs.toArray w fun e w'=>match e with
  | .returned mv=>(∀m,m<w.heap.size→w'.heap[m]? =w.heap[m]?)∧w.heap.size≤w'.heap.size∧w'.os=w.os∧w'.tape=w.tape∧w'.output=w.output∧RD w' (fun m o=>S m o∨w.heap.size≤m) x mv
  |_=>False:=by
 unfold pc at h
 obtain⟨⟨v,h2⟩,h1,h⟩:=zas h
 obtain⟨⟨y,h3⟩,h4,rfl⟩:=zaw h
 obtain⟨n,hn⟩:=zcQ.1 h1
 let κ':Ctx T:=⟨w.heap.size,S⟩
 let φ0:Place:=fun _=> .unborn
 have s0:Sim P A.sh κ' φ0 Heap.empty w:=⟨Nat.le_refl _,fun b m sz h=>(by cases h),fun b x h=>(by simp[Heap.empty]at h),fun _ _=>rfl,fun b b' m sz sz' h=>(by cases h),fun x hx=>⟨⟨fun _=>(hT x hx).1,fun b sz hb=>(by cases hb)⟩,(hT x hx).2⟩⟩
 have ha':Args φ0 w (stab κ' φ0 Heap.empty) (ds.map .d) margs:=zqw hl fun j y hy=>
  (ha j y hy).mono fun m o v hs hc=>⟨⟨fun _=>hs,fun b sz hb=>(by cases hb)⟩,hc⟩
 cases n with
 |zero=>simp[zeq]at hn
 |succ n=>
  simp only[zeq]at hn
  obtain⟨fn,g1,g2,g3,g4⟩:=zmH hL (zxy hL n) s0 ha' hn
  refine⟨fn,g1,g2,g3,g4.mono fun e w2 hp=> ?_⟩
  cases e with
  |panicked c=>exact hp.elim
  |outgrown=>exact hp.elim
  |returned mv=>
   obtain⟨φ2,s2,e2,r2,_⟩:=hp
   obtain⟨s3,e3,r3⟩:=zwY (P:=P) (sh:=A.sh) (κ:=κ') (φ:=φ2) (w:=w2) 8 h2 v y h3 mv s2 h4 r2
   refine⟨fun m hm=>(e2.frame m hm (fun b sz hb=>by cases hb)).1,e2.size,e2.os,e2.tape,e2.output,r3.mono fun m o v hs hc=>⟨?_,hc⟩⟩
   rcases Nat.lt_or_ge m w.heap.size with hm|hm
   ·exact .inl (hs.1 hm)
   ·exact .inr hm
end Go.AI
