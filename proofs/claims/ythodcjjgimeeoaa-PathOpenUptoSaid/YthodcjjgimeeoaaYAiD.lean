/- Shaken copy of a longer text: what one law needs. Its conditions: none. -/
import Derived.Test.YthodcjjgimeeoaaYAiC
import Derived.TacticsIn
import Derived.RangeFuncLeaves
set_option linter.unusedSimpArgs false
set_option linter.unusedVariables false
set_option linter.unusedSectionVars false
set_option linter.unnecessarySimpa false
namespace Go.AI
def zmg (St:Nat→Heap→Heap→Prop):List Nat→Heap→Heap→Prop
 |[],h,h'=>h=h'
 |i::l,h,h'=>∃h1,St i h h1∧zmg St l h1 h'
def zyw (St:Nat→Heap→Heap→Prop) (i j:Nat):Prop:=∀h h1 h2,St i h h1→St j h1 h2→∃h1',St j h h1'∧St i h1' h2
theorem ziN {St:Nat→Heap→Heap→Prop} {i:Nat} {b:List Nat}:∀{a:List Nat} {h h':Heap},(∀j∈a,zyw St j i)→zmg St (a++i::b) h h'→zmg St (i::(a++b)) h h'
 |[],_,_,_,x=>x
 |j::a,h,h',hs,⟨h1,s1,x⟩=>by
  obtain⟨h2,s2,y⟩:=ziN (fun k hk=>hs k (by simp[hk])) x
  obtain⟨h3,s3,s4⟩:=hs j (by simp) h h1 h2 s1 s2
  exact⟨h3,s3,h2,s4,y⟩
theorem zjS {St:Nat→Heap→Heap→Prop} {C:Nat→Nat→Prop} (hC:∀i j,i<j→C i j→zyw St i j):∀(l s:List Nat),l.Perm s→s.Pairwise (· < ·)→l.Pairwise (fun a b=>b<a→C b a)→∀{h h':Heap},zmg St s h h'→zmg St l h h'
 |[],s,hp,_,_,h,h',x=>by
  have:=hp.nil_eq
  subst this;exact x
 |i::l,s,hp,hs,hl,h,h',x=>by
  have hi:i∈s:=hp.subset (by simp)
  obtain⟨a,b,rfl⟩:=List.append_of_mem hi
  have hp2:l.Perm (a++b):=by
   have h1:(a++i::b).Perm (i::(a++b)):=List.perm_middle
   exact List.Perm.cons_inv (hp.trans h1)
  have hpa:=List.pairwise_append.1 hs
  have hcl:=List.pairwise_cons.1 hl
  obtain⟨h1,s1,y⟩:=ziN (i:=i) (a:=a) (b:=b) (fun j hj=>by
   have hji:j<i:=hpa.2.2 j hj i (by simp)
   have hjl:j∈l:=hp2.symm.subset (by simp[hj])
   exact hC j i hji (hcl.1 j hjl hji)) x
  refine⟨h1,s1,zjS hC l (a++b) hp2 ?_ hcl.2 y⟩
  have hb:=List.pairwise_cons.1 hpa.2.1
  exact List.pairwise_append.2 ⟨hpa.1,hb.2,fun p hpm q hq=>hpa.2.2 p hpm q (by simp[hq])⟩
theorem zmh {app:App} {sh:FuncId→Bool} {fr:Nat} {env env' r:Regs} {h:Heap} {so:SOp} (hh:∀y∈so.opds,opd env r y=opd env' r y):zae app sh fr env r h so=zae app sh fr env' r h so:=by
 have hl:∀{l:List Opd},(∀y∈l,opd env r y=opd env' r y)→l.map (opd env r)=l.map (opd env' r):=fun h=>List.map_congr_left h
 cases so with
 |build z ps=>
  have:(ps.map fun(x:Nat×Nat×Opd)=>(x.1,x.2.1,opd env r x.2.2))=ps.map fun x=>(x.1,x.2.1,opd env' r x.2.2):=List.map_congr_left fun x hx=>by
   rw[hh x.2.2 (by simp only[SOp.opds,List.mem_map];exact⟨x,hx,rfl⟩)]
  simp only[zae,this]
 |bslice n z ps=>
  have:(ps.map fun(x:Nat×Opd)=>(x.1,opd env r x.2))=ps.map fun x=>(x.1,opd env' r x.2):=List.map_congr_left fun x hx=>by
   rw[hh x.2 (by simp only[SOp.opds,List.mem_map];exact⟨x,hx,rfl⟩)]
  simp only[zae,this]
 |mkFunc f a b=>simp only[zae,hl (l:=a) (fun y hy=>hh y (by simp[SOp.opds,hy])),hl (l:=b) (fun y hy=>hh y (by simp[SOp.opds,hy]))]
 |call f a=>simp only[zae,hl (l:=a) (fun y hy=>hh y (by simp[SOp.opds,hy]))]
 |callv f a=>simp only[zae,hl (l:=a) (fun y hy=>hh y (by simp[SOp.opds,hy])),hh f (by simp[SOp.opds])]
 |mx a=>simp only[zae,hl (l:=a) (fun y hy=>hh y (by simp[SOp.opds,hy]))]
 |mn a=>simp only[zae,hl (l:=a) (fun y hy=>hh y (by simp[SOp.opds,hy]))]
 |slice sz x lo hi mx=>
  have ho:∀{o:Option Opd},(∀y∈o.toList,opd env r y=opd env' r y)→o.map (opd env r)=o.map (opd env' r):=by
   intro o h
   cases o with
   |none=>rfl
   |some y=>simp[h y (by simp)]
  simp only[zae,hh x (by simp[SOp.opds]),ho (o:=lo) (fun y hy=>hh y (by simp only[SOp.opds,List.mem_cons,List.mem_append];exact .inr (.inl (.inl hy)))),
   ho (o:=hi) (fun y hy=>hh y (by simp only[SOp.opds,List.mem_cons,List.mem_append];exact .inr (.inl (.inr hy)))),ho (o:=mx) (fun y hy=>hh y (by simp only[SOp.opds,List.mem_cons,List.mem_append];exact .inr (.inr hy)))]
 |alloc=>rfl
 |mkMap=>rfl
 |_=>simp[SOp.opds]at hh;simp only[zae,hh]
def Stp (app:App) (sh:FuncId→Bool) (base:Nat) (ops:List (SOp×Option (Nat×Bool))) (env r:Regs) (i:Nat) (h h':Heap):Prop:=
 match ops[i]? with
 |none=>h'=h
 |some (so,g)=>if zaV env g=true then zae app sh (base+i) env r h so=some (env i,h')else env i= .d (.tuple [])∧h'=h
def zCg (ops:List (SOp×Option (Nat×Bool))) (k:Nat):Prop:=
 ∀(i:Nat) so g,ops[i]? =some (so,g)→(∀j,.l j∈so.opds→j<k+i)∧∀j t,g=some (j,t)→j<k+i
theorem zen {app:App} {sh:FuncId→Bool} {base:Nat} {all:List (SOp×Option (Nat×Bool))} {r:Regs}:∀(ops:List (SOp×Option (Nat×Bool))) (k:Nat) (env env':Regs) (h h':Heap),
 all.drop k=ops→zCg ops k→zbb app sh base r ops k env h=some (env',h')→(∀j,j<k→env' j=env j)∧zmg (Stp app sh base all env' r) (List.range' k ops.length) h h'
 |[],k,env,env',h,h',_,_,he=>by
  simp only[zbb,Option.some.injEq,Prod.mk.injEq]at he
  obtain⟨rfl,rfl⟩:=he
  exact⟨fun _ _=>rfl,rfl⟩
 |(so,g)::ops,k,env,env',h,h',hd,hlo,he=>by
  have hk:all[k]? =some (so,g):=by
   have:(all.drop k)[0]? =some (so,g):=by rw[hd];rfl
   simpa using this
  have hd2:all.drop (k+1)=ops:=by
   have:(all.drop k).drop 1=ops:=by rw[hd];rfl
   rw[List.drop_drop]at this;exact this
  have hlo2:zCg ops (k+1):=fun i s2 g2 h2=>by
   have:=hlo (i+1) s2 g2 (by simpa using h2)
   exact⟨fun j hj=>by have:=this.1 j hj;omega,fun j t hj=>by have:=this.2 j t hj;omega⟩
  have h0:=hlo 0 so g rfl
  simp only[Nat.add_zero]at h0
  have hwant:∀e:Regs,(∀j,j<k→e j=env j)→zaV e g=zaV env g:=by
   intro e hee
   cases g with
   |none=>rfl
   |some x=>
    obtain⟨j,t⟩:=x
    simp only[zaV,hee j (h0.2 j t rfl)]
  have hcong:∀e:Regs,(∀j,j<k→e j=env j)→zae app sh (base+k) e r h so=zae app sh (base+k) env r h so:=fun e hee=>zmh fun y hy=>by
   cases y with
   |l j=>exact hee j (h0.1 j hy)
   |r t=>rfl
   |k x=>rfl
  simp only[zbb]at he
  split at he
  ·rename_i hw
   obtain⟨⟨v,h1⟩,e1,he⟩:=Option.bind_eq_some_iff.1 he
   obtain⟨i1,i2⟩:=zen ops (k+1) (env.set k v) env' h1 h' hd2 hlo2 he
   have hlow:∀j,j<k→env' j=env j:=fun j hj=>by
    rw[i1 j (by omega)]
    have:(j==k)=false:=by simp;omega
    simp[Regs.set,this]
   have hat:env' k=v:=by rw[i1 k (by omega)];simp[Regs.set]
   refine⟨hlow,?_⟩
   rw[List.length_cons,List.range'_succ]
   refine⟨h1,?_,i2⟩
   simp only[Stp,hk]
   rw[if_pos (by rw[hwant env' hlow];exact hw),hcong env' hlow,e1,hat]
  ·rename_i hw
   obtain⟨i1,i2⟩:=zen ops (k+1) (env.set k (.d (.tuple []))) env' h h' hd2 hlo2 he
   have hlow:∀j,j<k→env' j=env j:=fun j hj=>by
    rw[i1 j (by omega)]
    have:(j==k)=false:=by simp;omega
    simp[Regs.set,this]
   have hat:env' k= .d (.tuple []):=by rw[i1 k (by omega)];simp[Regs.set]
   refine⟨hlow,?_⟩
   rw[List.length_cons,List.range'_succ]
   refine⟨h,?_,i2⟩
   simp only[Stp,hk]
   rw[if_neg (by rw[hwant env' hlow];exact hw)]
   exact⟨hat,trivial⟩
end Go.AI
namespace Go.AI
def Later (ops:Array Oper):Prop:=∀(i:Nat) o,ops[i]? =some o→∀e∈o.after.toList,Region.binds .any e=true→e.on<i
structure Lined (ops:Array Oper) (acc:List Nat):Prop where
 nodup:acc.Nodup
 lt:∀i∈acc,i<ops.size
 after:∀x a y,acc=x++a::y→∀o,ops[a]? =some o→∀e∈o.after.toList,Region.binds .any e=true→e.on∈y
theorem Lined.cons {ops:Array Oper} {acc:List Nat} (h:Lined ops acc) {i:Nat} (hi:i<ops.size) (hn:i∉acc) (ha:∀o,ops[i]? =some o→∀e∈o.after.toList,Region.binds .any e=true→e.on∈acc):Lined ops (i::acc):=by
 refine⟨List.nodup_cons.2 ⟨hn,h.nodup⟩,fun j hj=> ?_,fun x a y hx=> ?_⟩
 ·rcases List.mem_cons.1 hj with rfl|hj
  ·exact hi
  ·exact h.lt j hj
 ·cases x with
  |nil=>simp only[List.nil_append,List.cons.injEq]at hx;obtain⟨rfl,rfl⟩:=hx;exact ha
  |cons b x=>simp only[List.cons_append,List.cons.injEq]at hx;exact h.after x a y hx.2
theorem zpv {ops:Array Oper} (hA:Later ops):∀(fuel t:Nat) (listed:Array Bool) (acc:List Nat),listed.size=ops.size→(∀i,i<ops.size→(listed.getD i false=true↔i∈acc))→Lined ops acc→acc.length+fuel=ops.size→
 ∃l,Region.linearise.go .any ops fuel t listed acc=l.reverse∧Lined ops l∧l.length=ops.size
 |0,t,listed,acc,hs,hm,hl,hn=>⟨acc,rfl,hl,by omega⟩
 |fuel+1,t,listed,acc,hs,hm,hl,hn=>by
  have hgd:∀i,i<ops.size→listed.getD i true=listed.getD i false:=fun i hi=>by
   have:i<listed.size:=by omega
   simp[Array.getD,this]
  have hready:∀i,i∈((List.range ops.size).filter fun i=> !listed.getD i true&&((ops[i]?).map (·.after.all fun e=> !Region.binds .any e||listed.getD e.on false)).getD false)→
   i<ops.size∧i∉acc∧∀o,ops[i]? =some o→∀e∈o.after.toList,Region.binds .any e=true→e.on∈acc:=by
   intro i hi
   rw[List.mem_filter]at hi
   have hin:=List.mem_range.1 hi.1
   have h2:=hi.2
   simp only[Bool.and_eq_true,Bool.not_eq_true']at h2
   refine⟨hin,fun hh=> ?_,fun o ho e he hb=> ?_⟩
   ·rw[hgd i hin,(hm i hin).2 hh]at h2;exact absurd h2.1 (by simp)
   ·rw[ho]at h2
    simp only[Option.map_some,Option.getD_some]at h2
    rw[←Array.all_toList,List.all_eq_true]at h2
    have:=h2.2 e he
    rw[hb]at this
    simp only[Bool.not_true,Bool.false_or]at this
    have hon:e.on<ops.size:=by have:=hA i o ho e he hb;omega
    exact(hm e.on hon).1 this
  have hne:((List.range ops.size).filter fun i=> !listed.getD i true&&((ops[i]?).map (·.after.all fun e=> !Region.binds .any e||listed.getD e.on false)).getD false)≠[]:=by
   have hex:∃i,i<ops.size∧i∉acc:=by
    apply Classical.byContradiction
    intro hno
    have hsub:List.range ops.size⊆acc:=fun i hi=>Classical.byContradiction fun hh=>hno ⟨i,List.mem_range.1 hi,hh⟩
    have:=List.nodup_range.length_le_of_subset hsub
    rw[List.length_range]at this
    omega
   obtain⟨i,⟨hi1,hi2⟩,hmin⟩:∃i,(i<ops.size∧i∉acc)∧∀j,j<i→j∈acc:=by
    obtain⟨i0,hi0⟩:=hex
    have key:∀n i,i<n→(i<ops.size∧i∉acc)→∃i,(i<ops.size∧i∉acc)∧∀j,j<i→j∈acc:=by
     intro n
     induction n with
     |zero=>intro i hi;omega
     |succ n ih=>
      intro i hin hi
      by_cases hall:∀j,j<i→j∈acc
      ·exact⟨i,hi,hall⟩
      ·obtain⟨j,hj⟩:=Classical.not_forall.1 hall
       have hj1:j<i:=Classical.byContradiction fun hh=>hj fun h=>absurd h hh
       have hj2:j∉acc:=fun hh=>hj fun _=>hh
       exact ih j (by omega) ⟨by omega,hj2⟩
    exact key (i0+1) i0 (by omega) hi0
   intro hnil
   have:i∈((List.range ops.size).filter fun i=> !listed.getD i true&&((ops[i]?).map (·.after.all fun e=> !Region.binds .any e||listed.getD e.on false)).getD false):=by
    rw[List.mem_filter]
    refine⟨List.mem_range.2 hi1,?_⟩
    have hf:listed.getD i true=false:=by
     rw[hgd i hi1]
     cases hh:listed.getD i false with
     |false=>rfl
     |true=>exact absurd ((hm i hi1).1 hh) hi2
    rw[hf,Array.getElem?_eq_getElem hi1]
    simp only[Bool.not_false,Bool.true_and,Option.map_some,Option.getD_some]
    rw[←Array.all_toList,List.all_eq_true]
    intro e he
    cases hb:Region.binds .any e with
    |false=>rfl
    |true=>
     have hon:=hA i ops[i] (Array.getElem?_eq_getElem hi1) e he hb
     rw[(hm e.on (by omega)).2 (hmin e.on hon)];rfl
   rw[hnil]at this;cases this
  simp only[Region.linearise.go]
  generalize hrs:((List.range ops.size).filter fun i=> !listed.getD i true&&((ops[i]?).map (·.after.all fun e=> !Region.binds .any e||listed.getD e.on false)).getD false)=rs at hready hne
  have hlen:t %rs.length<rs.length:=Nat.mod_lt _ (List.length_pos_iff.2 hne)
  rw[List.getElem?_eq_getElem hlen]
  dsimp only
  obtain⟨h1,h2,h3⟩:=hready rs[t %rs.length] (List.getElem_mem hlen)
  refine zpv hA fuel _ _ _ (by simpa using hs) (fun j hj=> ?_) (hl.cons h1 h2 h3) (by simp;omega)
  rw[List.mem_cons]
  by_cases hji:j=rs[t %rs.length]
  ·have hjs:j<listed.size:=by omega
   subst hji
   simp[Array.getD,hjs]
  ·have:=hm j hj
   simp only[hji,false_or]
   rw[←this]
   have hjs:j<listed.size:=by omega
   simp[Array.getD,hjs,Array.getElem_setIfInBounds,Ne.symm hji]
theorem znY {ops:Array Oper} (hA:Later ops) (t:Nat):∃l:List Nat,Region.schedule true ops t=l∧l.Perm (List.range ops.size)∧∀x a y,l=x++a::y→∀o,ops[a]? =some o→∀e∈o.after.toList,Region.binds .any e=true→e.on∈x:=by
 obtain⟨l,h1,h2,h3⟩:=zpv hA ops.size t (Array.replicate ops.size false) [] (by simp) (fun i hi=>by simp[Array.getD,hi]) ⟨List.nodup_nil,by simp,fun x a y h=>by simp at h⟩ (by simp)
 refine⟨l.reverse,by simp only[Region.schedule,Bool.true_or,if_true,Region.linearise];exact h1,?_,fun x a y hx o ho e he hb=> ?_⟩
 ·refine(List.reverse_perm l).trans ((List.perm_ext_iff_of_nodup h2.nodup List.nodup_range).2 fun i=>⟨fun hi=>List.mem_range.2 (h2.lt i hi),fun hi=> ?_⟩)
  apply Classical.byContradiction
  intro hn
  have hsub:(i::l)⊆List.range ops.size:=fun j hj=>by
   rcases List.mem_cons.1 hj with rfl|hj
   ·exact hi
   ·exact List.mem_range.2 (h2.lt j hj)
  have:=(List.nodup_cons.2 ⟨hn,h2.nodup⟩).length_le_of_subset hsub
  simp at this;omega
 ·have:l=y.reverse++a::x.reverse:=by
   have:=congrArg List.reverse hx
   simpa using this
  have:=h2.after _ a _ this o ho e he hb
  simpa using this
def zdL (acc:Array Nat) (o:Oper):Array Nat:=acc.push (o.after.foldl (fun s e=>if Region.binds .any e then s|||2^e.on|||acc.getD e.on 0 else s) 0)
theorem zut (ops:Array Oper):Region.before ops=ops.toList.foldl zdL #[]:=by
 rw[Array.foldl_toList];rfl
theorem zmi (acc:Array Nat) (b:Nat):∀(l:List Edge) (s:Nat),(l.foldl (fun s e=>if Region.binds .any e then s|||2^e.on|||acc.getD e.on 0 else s) s).testBit b=true→
 s.testBit b=true∨∃e∈l,Region.binds .any e=true∧(b=e.on∨(acc.getD e.on 0).testBit b=true)
 |[],s,h=> .inl h
 |e::l,s,h=>by
  rw[List.foldl_cons]at h
  rcases zmi acc b l _ h with h1|⟨e',h1,h2,h3⟩
  ·split at h1
   ·rename_i hb
    rw[Nat.testBit_or,Nat.testBit_or,Nat.testBit_two_pow]at h1
    simp only[Bool.or_eq_true,decide_eq_true_eq]at h1
    rcases h1 with(h1|h1)|h1
    ·exact .inl h1
    ·exact .inr ⟨e,by simp,hb,.inl h1.symm⟩
    ·exact .inr ⟨e,by simp,hb,.inr h1⟩
   ·exact .inl h1
  ·exact .inr ⟨e',by simp[h1],h2,h3⟩
theorem zFr (l:List Oper):∀n,n≤l.length→((l.take n).foldl zdL #[]).size=n∧∀(i b:Nat),i<n→(((l.take n).foldl zdL #[]).getD i 0).testBit b=true→
 ∃o,l[i]? =some o∧∃e∈o.after.toList,Region.binds .any e=true∧(b=e.on∨(e.on<i∧(((l.take n).foldl zdL #[]).getD e.on 0).testBit b=true)):=by
 intro n
 induction n with
 |zero=>exact fun _=>⟨rfl,fun i b h=>by omega⟩
 |succ n ih=>
  intro hn
  obtain⟨h1,h2⟩:=ih (by omega)
  have hln:n<l.length:=by omega
  have ht:l.take (n+1)=l.take n++[l[n]]:=by rw[List.take_succ_eq_append_getElem hln]
  rw[ht,List.foldl_append,List.foldl_cons,List.foldl_nil]
  generalize hacc:(l.take n).foldl zdL #[]=acc at h1 h2
  have hlow:∀j,j<n→(zdL acc l[n]).getD j 0=acc.getD j 0:=fun j hj=>by
   simp only[zdL,Array.getD]
   have a1:j<acc.size:=by omega
   have a2:j<(acc.push (l[n].after.foldl (fun s e=>if Region.binds .any e then s|||2^e.on|||acc.getD e.on 0 else s) 0)).size:=by simp;omega
   rw[dif_pos a1]
   simp only[Array.getD]at a2
   rw[dif_pos a2]
   simp[Array.getElem_push_lt a1]
  refine⟨by simp[zdL,h1],fun i b hi hb=> ?_⟩
  by_cases hin:i<n
  ·rw[hlow i hin]at hb
   obtain⟨o,ho,e,he,hbi,hor⟩:=h2 i b hin hb
   refine⟨o,ho,e,he,hbi,hor.imp id fun⟨p,q⟩=>⟨p,?_⟩⟩
   rw[hlow e.on (by omega)];exact q
  ·have:i=n:=by omega
   subst this
   refine⟨l[i],List.getElem?_eq_getElem hln,?_⟩
   have hat:(zdL acc l[i]).getD i 0=l[i].after.foldl (fun s e=>if Region.binds .any e then s|||2^e.on|||acc.getD e.on 0 else s) 0:=by
    have hv:∀v:Nat,(acc.push v).getD i 0=v:=fun v=>by rw[←h1];simp[Array.getD]
    exact hv _
   rw[hat,←Array.foldl_toList]at hb
   rcases zmi acc b _ _ hb with h3|⟨e,he,hbi,hor⟩
   ·simp at h3
   ·refine⟨e,he,hbi,hor.imp id fun h4=> ?_⟩
    have hlt:e.on<i:=by
     rcases Nat.lt_or_ge e.on i with h5|h5
     ·exact h5
     ·have:¬e.on<acc.size:=by omega
      simp[Array.getD,this]at h4
    exact⟨hlt,by rw[hlow e.on hlt];exact h4⟩
theorem zrp {ops:Array Oper} {i b:Nat} (h:((Region.before ops).getD i 0).testBit b=true):
 ∃o,ops[i]? =some o∧∃e∈o.after.toList,Region.binds .any e=true∧(b=e.on∨(e.on<i∧((Region.before ops).getD e.on 0).testBit b=true)):=by
 rw[zut]at h⊢
 have hb:=zFr ops.toList ops.toList.length (Nat.le_refl _)
 rw[List.take_length]at hb
 have hi:i<ops.toList.length:=by
  rcases Nat.lt_or_ge i ops.toList.length with h1|h1
  ·exact h1
  ·have:¬i<(ops.toList.foldl zdL #[]).size:=by rw[hb.1];omega
   unfold Array.getD at h
   rw[dif_neg this]at h
   simp at h
 obtain⟨o,ho,r⟩:=hb.2 i b hi h
 exact⟨o,by simpa using ho,r⟩
theorem ahead {ops:Array Oper} {l:List Nat} (hl:∀x a y,l=x++a::y→∀o,ops[a]? =some o→∀e∈o.after.toList,Region.binds .any e=true→e.on∈x):∀(n a:Nat),a<n→∀(b:Nat) (x y:List Nat),l=x++a::y→
 ((Region.before ops).getD a 0).testBit b=true→b∈x
 |n+1,a,ha,b,x,y,hx,hb=>by
  obtain⟨o,ho,e,he,hbi,hor⟩:=zrp hb
  have hin:=hl x a y hx o ho e he hbi
  rcases hor with rfl|⟨hlt,hb2⟩
  ·exact hin
  ·obtain⟨x1,x2,rfl⟩:=List.append_of_mem hin
   have:=ahead hl n e.on (by omega) b x1 (x2++a::y) (by rw[hx];simp) hb2
   simp[this]
end Go.AI
namespace Go.AI
variable {P:Program} {sh:FuncId→Bool} {T:Tabs} {κ:Ctx T} {φ φ':Place} {H H':Heap} {w w' w'':World} {S S':Nat→Nat→Prop}
def dstOf (ops:Array Oper) (k:Nat):Option Nat:=(ops[k]?).bind (·.dst)
def cur (ops:Array Oper) (done:List Nat) (t:Nat):Option Nat:=done.find? fun k=>dstOf ops k==some t
def adv:List Oper→Nat→List (Nat×Nat)→List (Nat×Nat)
 |[],_,wr=>wr
 |o::r,i,wr=>adv r (i+1) (zId o.dst i wr)
structure Fits (P:Program) (U:Nat→Bool) (nt:Nat) (ops:Array Oper) (sops:List (SOp×Option (Nat×Bool))) (i:Nat) (done:List Nat):Prop where
 of:∃o so wr,ops[i]? =some o∧sops[i]? =some (so,o.guard)∧prepOp P U nt wr o=some so∧(∀d,o.dst=some d→d<nt)∧
  (∀t k,wr.lookup t=some k→.l k∈so.opds→t<nt∧cur ops done t=some k)∧(∀t,wr.lookup t=none→.r t∈so.opds→cur ops done t=none)∧
  (∀j want,o.guard=some (j,want)→∃d,d<nt∧dstOf ops j=some d∧cur ops done d=some j)
def RSt (φ:Place) (w:World) (S:Nat→Nat→Prop) (U:Nat→Bool) (nt:Nat) (ops:Array Oper) (env r:Regs) (done:List Nat) (tmps:Array Value):Prop:=
 nt≤tmps.size∧∀t,t<nt→match cur ops done t with
  |some k=>Rel φ w S (env k) (tmps.getD t undef)
  |none=>U t=true→Rel φ w S (r t) (tmps.getD t undef)
theorem RSt.ext (e:Ext κ φ H w φ' H' w') {U:Nat→Bool} {nt:Nat} {ops:Array Oper} {env r:Regs} {done:List Nat} {tmps:Array Value} (h:RSt φ w (stab κ φ H) U nt ops env r done tmps):RSt φ' w' (stab κ φ' H') U nt ops env r done tmps:=by
 refine⟨h.1,fun t ht=> ?_⟩
 have:=h.2 t ht
 split
 ·rename_i k hk;rw[hk]at this;exact e.rv this
 ·rename_i hk;rw[hk]at this;exact fun hu=>e.rv (this hu)
theorem RSt.put {U:Nat→Bool} {nt:Nat} {ops:Array Oper} {env r:Regs} {done:List Nat} {a:Act} (h:RSt φ w S U nt ops env r done a.tmps) {i:Nat} {o:Oper} (ho:ops[i]? =some o) (hd:∀d,o.dst=some d→d<nt) {mv:Value} (hr:Rel φ w S (env i) mv):
 RSt φ w S U nt ops env r (i::done) (a.put o.dst mv).tmps:=by
 have hdst:dstOf ops i=o.dst:=by simp[dstOf,ho]
 cases hod:o.dst with
 |none=>
  refine⟨h.1,fun t ht=> ?_⟩
  have hc:cur ops (i::done) t=cur ops done t:=by
   unfold cur;rw[List.find?_cons,hdst,hod];rfl
  rw[hc];exact h.2 t ht
 |some d=>
  have hdn:=hd d hod
  refine⟨by simp only[Act.put,Array.size_setIfInBounds];exact h.1,fun t ht=> ?_⟩
  by_cases htd:t=d
  ·subst htd
   have hc:cur ops (i::done) t=some i:=by
    unfold cur;rw[List.find?_cons,hdst,hod];simp
   rw[hc]
   have hlt:t<a.tmps.size:=Nat.lt_of_lt_of_le hdn h.1
   have hg:(a.put (some t) mv).tmps.getD t undef=mv:=by simp[Act.put,Array.getD,hlt]
   rw[hg];exact hr
  ·have hc:cur ops (i::done) t=cur ops done t:=by
    have hne:(some d==some t)=false:=by simp;exact Ne.symm htd
    unfold cur;rw[List.find?_cons,hdst,hod,hne]
   have hg:(a.put (some d) mv).tmps.getD t undef=a.tmps.getD t undef:=by
    have hlt:t<a.tmps.size:=Nat.lt_of_lt_of_le ht h.1
    simp[Act.put,Array.getD,hlt,Array.getElem_setIfInBounds,Ne.symm htd]
   rw[hc,hg];exact h.2 t ht
theorem Act.put_defers (a:Act) (d:Option Tmp) (v:Value):(a.put d v).defers=a.defers:=by cases d<;>rfl
theorem RSt.opds {U:Nat→Bool} {nt:Nat} {ops:Array Oper} {env r:Regs} {done:List Nat} {a:Act} (h:RSt φ w S U nt ops env r done a.tmps) {so:SOp} {wr:List (Nat×Nat)}
 (h1:∀t k,wr.lookup t=some k→.l k∈so.opds→t<nt∧cur ops done t=some k) (h2:∀t,wr.lookup t=none→.r t∈so.opds→cur ops done t=none):zbr (·∈so.opds) U nt wr env r a.eval φ w S:=by
 intro x y hp hy
 cases x with
 |tmp t=>
  simp only[zbq]at hp
  cases hl:wr.lookup t with
  |some k=>
   rw[hl]at hp
   simp only[Option.some.injEq]at hp;subst hp
   obtain⟨ht,hc⟩:=h1 t k hl hy
   have:=h.2 t ht
   rw[hc]at this
   exact this
  |none=>
   rw[hl]at hp
   simp only at hp
   split at hp
   ·rename_i hu
    simp only[Option.some.injEq]at hp;subst hp
    simp only[Bool.and_eq_true,decide_eq_true_eq]at hu
    have:=h.2 t hu.2
    rw[h2 t hl hy]at this
    exact this hu.1
   ·cases hp
 |const v=>
  simp only[zbq]at hp
  obtain⟨x,h3,rfl⟩:=zav hp
  exact .d (zbI h3)
 |func f=>
  simp only[zbq,Option.some.injEq]at hp;subst hp
  exact .d (.fn f)
 |global g=>cases hp
theorem zhZ {ro:Option Nat} {app:App} (happ:zjv T P sh app) {U:Nat→Bool} {nt base:Nat} {ops:Array Oper} {sops:List (SOp×Option (Nat×Bool))} {env r:Regs}
 (hg:∀(i:Nat) so j want,sops[i]? =some (so,some (j,want))→zbE (env j)=true) {Q:Exit→Act→World→Prop}:∀(l done:List Nat) (φ:Place) (H H':Heap) (a:Act) (w:World),
 (∀x i y,l=x++i::y→Fits P U nt ops sops i (x.reverse++done))→l.Nodup→Sim P sh κ φ H w→RSt φ w (stab κ φ H) U nt ops env r done a.tmps→(∀i∈l,φ (base+i)= .unborn∧base+i<H.next)→
 zmg (Stp app sh base sops env r) l H H'→
 (∀a' w' φ',Sim P sh κ φ' H' w'→Ext κ φ H w φ' H' w'→RSt φ' w' (stab κ φ' H') U nt ops env r (l.reverse++done) a'.tmps→a'.defers=a.defers→(∀b,b<H.next→φ b= .unborn→(∀i∈l,b≠base+i)→φ' b= .unborn)→Q .normal a' w')→
 wpOpsIn (zro ro) 0 P ops Q l a w
 |[],done,φ,H,H',a,w,_,_,s,hr,_,hc,hQ=>by
  have:H=H':=hc
  subst this
  exact hQ a w φ s .refl hr rfl (fun _ _ h _=>h)
 |i::l,done,φ,H,H',a,w,hf,hnd,s,hr,hu,⟨H1,hst,hc⟩,hQ=>by
  obtain⟨o,so,wr,ho,hso,hp,hd,h1,h2,h3⟩:=(hf [] i l rfl).of
  simp only[List.reverse_nil,List.nil_append]at h1 h2 h3
  have hnd':=List.nodup_cons.1 hnd
  have hf':∀x j y,l=x++j::y→Fits P U nt ops sops j (x.reverse++(i::done)):=fun x j y hx=>by
   have:=hf (i::x) j y (by rw[hx];rfl)
   simpa using this
  simp only[Stp,hso]at hst
  have hw:Region.wanted o (yielded ops a.tmps)=zaV env o.guard:=by
   cases hgd:o.guard with
   |none=>simp only[Region.wanted,hgd,zaV]
   |some x=>
    obtain⟨j,want⟩:=x
    obtain⟨d,hdn,hdj,hcj⟩:=h3 j want hgd
    have hb:=hg i so j want (by rw[hso,hgd])
    have hrel:=hr.2 d hdn
    rw[hcj]at hrel
    dsimp only at hrel
    have hlt:d<a.tmps.size:=Nat.lt_of_lt_of_le hdn hr.1
    have hy:yielded ops a.tmps j=(match a.tmps.getD d undef with| .bool b=>some b|_=>none):=by
     unfold yielded
     unfold dstOf at hdj
     rw[hdj]
     simp only[Option.bind_some,Array.getElem?_eq_getElem hlt]
     have:a.tmps.getD d undef=a.tmps[d]:=by simp[Array.getD,hlt]
     rw[this]
     cases a.tmps[d]<;>rfl
    simp only[Region.wanted,hgd,zaV,hy]
    generalize a.tmps.getD d undef=mv at hrel
    generalize env j=ev at hb hrel
    unfold zbE at hb
    split at hb
    ·have:=hrel.d_inv
     cases this
     simp
    ·have:=hrel.d_inv
     cases this
     simp
    ·cases hb
  simp only[wpOpsIn,ho]
  rw[hw]
  by_cases hwt:zaV env o.guard=true
  ·rw[if_pos hwt]at hst⊢
   obtain⟨hfr,hlt⟩:=hu i (by simp)
   refine zIp happ s hfr hlt (hr.opds h1 h2) hp (fun _ h=>h) hst fun mv w1 φ1 s1 e1 r1 u1=> ?_
   have hr1:RSt φ1 w1 (stab κ φ1 H1) U nt ops env r (i::done) (a.put o.dst mv).tmps:=(hr.ext e1).put ho hd r1
   refine zhZ happ hg l (i::done) φ1 H1 H' (a.put o.dst mv) w1 hf' hnd'.2 s1 hr1 (fun j hj=> ?_) hc fun a2 w2 φ2 s2 e2 r2 d2 u2=> ?_
   ·obtain⟨g1,g2⟩:=hu j (by simp[hj])
    have hji:j≠i:=fun h=>hnd'.1 (h▸hj)
    exact⟨u1 _ g2 g1 (by omega),Nat.lt_of_lt_of_le g2 e1.next⟩
   ·refine hQ a2 w2 φ2 s2 (e1.trans e2) (by simpa using r2) (by rw[d2,Act.put_defers]) fun b hb hub hbn=> ?_
    exact u2 b (Nat.lt_of_lt_of_le hb e1.next) (u1 b hb hub (hbn i (by simp))) (fun j hj=>hbn j (by simp[hj]))
  ·rw[if_neg hwt]at hst
   obtain⟨hei,rfl⟩:=hst
   rw[if_neg hwt]
   refine⟨fun _ _=>trivial,?_⟩
   have hr1:RSt φ w (stab κ φ H1) U nt ops env r (i::done) (a.put o.dst undef).tmps:=hr.put ho hd (by rw[hei];exact .d (.tuple rfl (fun j x v hx=>by simp at hx)))
   refine zhZ happ hg l (i::done) φ H1 H' (a.put o.dst undef) w hf' hnd'.2 s hr1 (fun j hj=>hu j (by simp[hj])) hc fun a2 w2 φ2 s2 e2 r2 d2 u2=> ?_
   exact hQ a2 w2 φ2 s2 e2 (by simpa using r2) (by rw[d2,Act.put_defers]) fun b hb hub hbn=>u2 b hb hub (fun j hj=>hbn j (by simp[hj]))
end Go.AI
namespace Go.AI
variable {P:Program} {sh:FuncId→Bool} {T:Tabs} {κ:Ctx T} {φ φ':Place} {H H':Heap} {w w' w'':World} {S S':Nat→Nat→Prop}
theorem zeS {U:Nat→Bool} {nt:Nat}:∀(l:List Oper) (i:Nat) (wr:List (Nat×Nat)) (sops:List (SOp×Option (Nat×Bool))) (wf:List (Nat×Nat)),zfD P U nt l i wr=some (sops,wf)→
 sops.length=l.length∧wf=adv l i wr∧∀(j:Nat) o,l[j]? =some o→∃so,sops[j]? =some (so,o.guard)∧prepOp P U nt (adv (l.take j) i wr) o=some so∧(∀d,o.dst=some d→d<nt)∧
  ∀k want,o.guard=some (k,want)→∃t,(adv (l.take j) i wr).lookup t=some k
 |[],i,wr,sops,wf,h=>by
  simp only[zfD,Option.some.injEq,Prod.mk.injEq]at h
  obtain⟨rfl,rfl⟩:=h
  exact⟨rfl,rfl,fun j o h=>by simp at h⟩
 |o::l,i,wr,sops,wf,h=>by
  simp only[zfD]at h
  obtain⟨s,h1,h⟩:=zap h
  split at h
  case isFalse=>cases h
  rename_i hc
  simp only[Bool.and_eq_true]at hc
  obtain⟨hc1,hc2⟩:=hc
  obtain⟨⟨sops',wf'⟩,h2,h3⟩:=zav h
  simp only[Prod.mk.injEq]at h3
  obtain⟨rfl,rfl⟩:=h3
  obtain⟨a1,a2,a3⟩:=zeS l (i+1) _ sops' wf' h2
  refine⟨by simp[a1],by rw[a2];rfl,fun j o' hj=> ?_⟩
  cases j with
  |zero=>
   simp only[List.getElem?_cons_zero,Option.some.injEq]at hj;subst hj
   refine⟨s,rfl,h1,fun d hd=> ?_,fun k want hgk=> ?_⟩
   ·rw[hd]at hc2;simpa[zEP]using hc2
   ·rw[hgk]at hc1
    simp only[zsQ,List.any_eq_true,Bool.and_eq_true,beq_iff_eq]at hc1
    obtain⟨⟨t,k'⟩,_,_,h9⟩:=hc1
    exact⟨t,h9⟩
  |succ j=>
   simp only[List.getElem?_cons_succ]at hj
   obtain⟨so,b1,b2,b3,b4⟩:=a3 j o' hj
   exact⟨so,by simpa using b1,b2,b3,b4⟩
theorem zjT:∀(a b:List Oper) (i:Nat) (wr:List (Nat×Nat)),adv (a++b) i wr=adv b (i+a.length) (adv a i wr)
 |[],b,i,wr=>rfl
 |o::a,b,i,wr=>by
  simp only[List.cons_append,adv,List.length_cons]
  rw[zjT a b]
  congr 1;omega
theorem zeC {ops:Array Oper}:∀(j:Nat),j≤ops.size→∀t,(adv (ops.toList.take j) 0 []).lookup t=cur ops (List.range j).reverse t
 |0,_,t=>by simp[adv,cur]
 |j+1,hj,t=>by
  have hlt:j<ops.toList.length:=by rw[Array.length_toList];omega
  have ih:=zeC (ops:=ops) j (by omega) t
  rw[List.take_succ_eq_append_getElem hlt,zjT]
  have hlen:(ops.toList.take j).length=j:=by simp;omega
  rw[hlen,Nat.zero_add]
  have hdst:dstOf ops j=ops.toList[j].dst:=by
   have:j<ops.size:=by omega
   simp[dstOf,this]
  rw[List.range_succ,List.reverse_append,List.reverse_singleton,List.singleton_append]
  simp only[adv,zId]
  unfold cur
  rw[List.find?_cons,hdst]
  cases hd:ops.toList[j].dst with
  |none=>
   have h0:(none==some t)=false:=rfl
   rw[h0]
   exact ih
  |some d=>
   simp only[List.lookup_cons]
   by_cases htd:t=d
   ·subst htd;simp
   ·have h1:(t==d)=false:=by simpa using htd
    have h2:(some d==some t)=false:=by simp;exact Ne.symm htd
    rw[h1,h2]
    exact ih
theorem zdF {ops:Array Oper} {done:List Nat} {t k:Nat} (h:cur ops done t=some k):k∈done∧dstOf ops k=some t:=by
 unfold cur at h
 exact⟨List.mem_of_find?_eq_some h,by have:=List.find?_some h;simpa using this⟩
theorem zpw {ops:Array Oper} {done:List Nat} {t:Nat} (h:∀k∈done,dstOf ops k≠some t):cur ops done t=none:=by
 unfold cur
 rw[List.find?_eq_none]
 intro k hk
 simpa using h k hk
theorem zuu {U:Nat→Bool} {nt:Nat} {ops:Array Oper} {sops:List (SOp×Option (Nat×Bool))} {wf:List (Nat×Nat)} (h:zfD P U nt ops.toList 0 []=some (sops,wf)):
 ∀x i y,List.range ops.size=x++i::y→Fits P U nt ops sops i (x.reverse++[]):=by
 intro x i y hx
 obtain⟨a1,a2,a3⟩:=zeS _ _ _ _ _ h
 have hxi:x=List.range i∧i<ops.size:=by
  have hlen:=congrArg List.length hx
  simp at hlen
  have h1:(List.range ops.size)[x.length]? =some i:=by rw[hx];simp
  have h2:x.length<ops.size:=by omega
  rw[List.getElem?_range h2]at h1
  simp only[Option.some.injEq]at h1
  refine⟨?_,by omega⟩
  have h3:=congrArg (List.take x.length) hx
  rw[List.take_left,List.take_range]at h3
  rw[←h3,←h1];congr 1;omega
 obtain⟨rfl,hi⟩:=hxi
 have hio:ops[i]? =some ops[i]:=Array.getElem?_eq_getElem hi
 obtain⟨so,b1,b2,b3,b4⟩:=a3 i ops[i] (by simpa using hio)
 have hdn:∀k t,dstOf ops k=some t→t<nt:=fun k t hk=>by
  unfold dstOf at hk
  cases hok:ops[k]? with
  |none=>rw[hok]at hk;cases hk
  |some o=>
   rw[hok]at hk
   exact(a3 k o (by simpa using hok)).elim fun s hs=>hs.2.2.1 t hk
 refine⟨ops[i],so,_,hio,b1,b2,b3,fun t k hl _=> ?_,fun t hl _=> ?_,fun j want hg=> ?_⟩
 ·rw[zeC i (by omega)]at hl
  exact⟨hdn k t (zdF hl).2,by simpa using hl⟩
 ·rw[zeC i (by omega)]at hl;simpa using hl
 ·obtain⟨t,hl⟩:=b4 j want hg
  rw[zeC i (by omega)]at hl
  exact⟨t,hdn j t (zdF hl).2,(zdF hl).2,by simpa using hl⟩
theorem zcW {α:Type} {l:List α} {i:Nat} {x:α} (h:l[i]? =some x):(x,i)∈l.zipIdx:=by
 rw[List.mem_zipIdx_iff_getElem?];exact h
theorem zmj {ops:Array Oper} {sops:List (SOp×Option (Nat×Bool))} (h:zpl (Region.before ops) ops.toList sops=true):
 (∀i j d,dstOf ops i=some d→dstOf ops j=some d→i=j)∧Later ops∧
 ∀(i:Nat) so g,sops[i]? =some (so,g)→(∀j,.l j∈so.opds→((Region.before ops).getD i 0).testBit j=true)∧(∀t,.r t∈so.opds→∀j,dstOf ops j=some t→j=i∨((Region.before ops).getD j 0).testBit i=true)∧
  ∀j want,g=some (j,want)→((Region.before ops).getD i 0).testBit j=true:=by
 unfold zpl at h
 simp only[Bool.and_eq_true]at h
 obtain⟨⟨h1,h2⟩,h3⟩:=h
 have hws:∀i d,dstOf ops i=some d→(d,i)∈(ops.toList.zipIdx.filterMap fun(o,i)=>o.dst.map fun d=>(d,i)):=by
  intro i d hd
  unfold dstOf at hd
  cases ho:ops[i]? with
  |none=>rw[ho]at hd;cases hd
  |some o=>
   rw[ho]at hd
   rw[List.mem_filterMap]
   exact⟨(o,i),zcW (by simpa using ho),by simp only[Option.bind_some]at hd;simp[hd]⟩
 refine⟨fun i j d hi hj=> ?_,fun i o ho e he hb=> ?_,fun i so g hi=> ?_⟩
 ·rw[List.all_eq_true]at h1
  have:=h1 _ (hws i d hi)
  simp only[List.all_eq_true]at this
  have:=this _ (hws j d hj)
  simpa using this
 ·rw[List.all_eq_true]at h2
  have:=h2 (o,i) (zcW (by simpa using ho))
  simp only at this
  rw[←Array.all_toList,List.all_eq_true]at this
  have:=this e he
  rw[hb]at this
  simpa using this
 ·rw[List.all_eq_true]at h3
  have:=h3 ((so,g),i) (zcW hi)
  simp only[Bool.and_eq_true,List.all_eq_true]at this
  obtain⟨a1,a2⟩:=this
  refine⟨fun j hj=>a1 _ hj,fun t ht j hj=> ?_,fun j want hg=> ?_⟩
  ·have:=a1 _ ht
   simp only[List.all_eq_true]at this
   have:=this _ (hws j t hj)
   simpa using this
  ·subst hg;exact a2
theorem zrq {U:Nat→Bool} {nt:Nat} {ops:Array Oper} {sops:List (SOp×Option (Nat×Bool))} {wf:List (Nat×Nat)} (h:zfD P U nt ops.toList 0 []=some (sops,wf)) (hd:zpl (Region.before ops) ops.toList sops=true)
 {l:List Nat} (hp:l.Perm (List.range ops.size)) (ha:∀x a y,l=x++a::y→∀o,ops[a]? =some o→∀e∈o.after.toList,Region.binds .any e=true→e.on∈x):
 ∀x i y,l=x++i::y→Fits P U nt ops sops i (x.reverse++[]):=by
 intro x i y hx
 obtain⟨a1,a2,a3⟩:=zeS _ _ _ _ _ h
 obtain⟨d1,d2,d3⟩:=zmj hd
 have hah:=fun(a:Nat)=>ahead ha (a+1) a (Nat.lt_succ_self a)
 have hnd:l.Nodup:=hp.symm.nodup List.nodup_range
 have hi:i<ops.size:=List.mem_range.1 (hp.subset (by rw[hx];simp))
 have hio:ops[i]? =some ops[i]:=Array.getElem?_eq_getElem hi
 obtain⟨so,b1,b2,b3,b4⟩:=a3 i ops[i] (by simpa using hio)
 obtain⟨c1,c2,c3⟩:=d3 i so _ b1
 have hdn:∀k t,dstOf ops k=some t→t<nt:=fun k t hk=>by
  unfold dstOf at hk
  cases hok:ops[k]? with
  |none=>rw[hok]at hk;cases hk
  |some o=>
   rw[hok]at hk
   exact(a3 k o (by simpa using hok)).elim fun s hs=>hs.2.2.1 t hk
 have uniq:∀k t,k∈x→dstOf ops k=some t→cur ops (x.reverse++[]) t=some k:=fun k t hk hkt=>by
  cases hc:cur ops (x.reverse++[]) t with
  |none=>
   unfold cur at hc
   rw[List.find?_eq_none]at hc
   have:=hc k (by simpa using hk)
   rw[hkt]at this;simp at this
  |some k'=>rw[d1 k' k t (zdF hc).2 hkt]
 refine⟨ops[i],so,_,hio,b1,b2,b3,fun t k hl hk=> ?_,fun t hl ht=> ?_,fun j want hg=> ?_⟩
 ·rw[zeC i (by omega)]at hl
  have hkt:=(zdF hl).2
  exact⟨hdn k t hkt,uniq k t (hah i k x y hx (c1 k hk)) hkt⟩
 ·refine zpw fun k hk hkt=> ?_
  have hk':k∈x:=by simpa using hk
  rcases c2 t ht k hkt with rfl|hb
  ·rw[hx]at hnd
   exact(List.nodup_append.1 hnd).2.2 k hk' k (by simp) rfl
  ·obtain⟨x1,x2,rfl⟩:=List.append_of_mem hk'
   have hix:i∈x1:=hah k i x1 (x2++i::y) (by rw[hx];simp) hb
   rw[hx]at hnd
   exact(List.nodup_append.1 hnd).2.2 i (by simp[hix]) i (by simp) rfl
 ·obtain⟨t,hl⟩:=b4 j want hg
  rw[zeC i (by omega)]at hl
  have hjt:=(zdF hl).2
  exact⟨t,hdn j t hjt,hjt,uniq j t (hah i j x y hx (c3 j want hg)) hjt⟩
end Go.AI
namespace Go.AI
variable {P:Program} {sh:FuncId→Bool} {T:Tabs} {κ:Ctx T} {φ φ':Place} {H H':Heap} {w w' w'':World} {S S':Nat→Nat→Prop}
def znZ (U:Nat→Bool) (acc:List (Nat×Nat)) (x:Nat×Nat):List (Nat×Nat):=if U x.1&& !acc.any (fun y=>y.1==x.1)then x::acc else acc
theorem zoa (U:Nat→Bool) (wr:List (Nat×Nat)):zcU U wr=wr.foldl (znZ U) []:=rfl
theorem zge {U:Nat→Bool}:∀(wr p acc:List (Nat×Nat)),(∀t i,(t,i)∈acc↔U t=true∧p.lookup t=some i)→∀t i,(t,i)∈wr.foldl (znZ U) acc↔U t=true∧(p++wr).lookup t=some i
 |[],p,acc,h,t,i=>by simpa using h t i
 |(d,k)::wr,p,acc,h,t,i=>by
  rw[List.foldl_cons]
  have hp:p++(d,k)::wr=(p++[(d,k)])++wr:=by simp
  rw[hp]
  refine zge wr (p++[(d,k)]) _ (fun t i=> ?_) t i
  have hlk:(p++[(d,k)]).lookup t=(p.lookup t).or (if t==d then some k else none):=by
   rw[List.lookup_append]
   congr 1
   simp only[List.lookup_cons,List.lookup_nil]
   cases(t==d)<;>rfl
  rw[hlk]
  have hany:acc.any (fun y=>y.1==d)=true↔U d=true∧(p.lookup d).isSome=true:=by
   rw[List.any_eq_true]
   constructor
   ·rintro⟨⟨a,b⟩,hm,he⟩
    have:a=d:=by simpa using he
    subst this
    obtain⟨h1,h2⟩:=(h a b).1 hm
    exact⟨h1,by rw[h2];rfl⟩
   ·rintro⟨h1,h2⟩
    obtain⟨b,hb⟩:=Option.isSome_iff_exists.1 h2
    exact⟨(d,b),(h d b).2 ⟨h1,hb⟩,by simp⟩
  unfold znZ
  split
  ·rename_i hc
   simp only[Bool.and_eq_true,Bool.not_eq_true']at hc
   have hnl:p.lookup d=none:=by
    cases hl:p.lookup d with
    |none=>rfl
    |some b=>rw[hany.2 ⟨hc.1,by rw[hl];rfl⟩]at hc;exact absurd hc.2 (by simp)
   rw[List.mem_cons,h t i]
   by_cases htd:t=d
   ·subst htd
    rw[hnl]
    simp[hc.1,eq_comm]
   ·have h1:(t==d)=false:=by simpa using htd
    rw[h1]
    simp[htd]
  ·rename_i hc
   rw[h t i]
   by_cases htd:t=d
   ·subst htd
    cases hu:U t with
    |false=>simp
    |true=>
     have:acc.any (fun y=>y.1==t)=true:=by
      simp only[hu,Bool.true_and,Bool.not_eq_true,Bool.not_eq_false']at hc
      exact hc
     obtain⟨b,hb⟩:=Option.isSome_iff_exists.1 (hany.1 this).2
     rw[hb];simp
   ·have h1:(t==d)=false:=by simpa using htd
    rw[h1]
    simp
theorem zdG {U:Nat→Bool} {wr:List (Nat×Nat)} {t i:Nat}:(t,i)∈zcU U wr↔U t=true∧wr.lookup t=some i:=by
 rw[zoa]
 have:=zge (U:=U) wr [] [] (fun t i=>by simp) t i
 simpa using this
theorem zjU {env:Regs} {t:Nat}:∀(outs:List (Nat×Nat)) (r:Regs),(∀i j,(t,i)∈outs→(t,j)∈outs→i=j)→(∀k,(t,k)∈outs→zdP env outs r t=env k)∧((∀k,(t,k)∉outs)→zdP env outs r t=r t)
 |[],r,_=>⟨fun k h=>by simp at h,fun _=>rfl⟩
 |(d,i)::outs,r,h=>by
  obtain⟨h1,h2⟩:=zjU (t:=t) outs (r.set d (env i)) (fun a b ha hb=>h a b (List.mem_cons_of_mem _ ha) (List.mem_cons_of_mem _ hb))
  simp only[zdP]
  constructor
  ·intro k hk
   by_cases hin:∃k',(t,k')∈outs
   ·obtain⟨k',hk'⟩:=hin
    rw[h1 k' hk',h k k' hk (by simp[hk'])]
   ·have hno:∀k,(t,k)∉outs:=fun k hk=>hin ⟨k,hk⟩
    rw[h2 hno]
    rcases List.mem_cons.1 hk with he|hk
    ·simp only[Prod.mk.injEq]at he
     obtain⟨rfl,rfl⟩:=he
     simp[Regs.set]
    ·exact absurd hk (hno k)
  ·intro hno
   rw[h2 (fun k hk=>hno k (by simp[hk]))]
   have:(t==d)=false:=by
    simp only[beq_eq_false_iff_ne]
    intro he;subst he
    exact hno i (by simp)
   simp[Regs.set,this]
theorem RSt.outs {U:Nat→Bool} {nt:Nat} {ops:Array Oper} {env r:Regs} {done:List Nat} {tmps:Array Value} (h:RSt φ w S U nt ops env r done tmps) {wf:List (Nat×Nat)} (hw:∀t,t<nt→wf.lookup t=cur ops done t):
 RR φ w S U nt (zdP env (zcU U wf) r) tmps:=by
 refine⟨h.1,fun t hu ht=> ?_⟩
 have hs:=zjU (env:=env) (t:=t) (zcU U wf) r (fun i j hi hj=>by
  have a:=(zdG.1 hi).2
  have b:=(zdG.1 hj).2
  rw[a]at b;simpa using b)
 have h2:=h.2 t ht
 rw[←hw t ht]at h2
 cases hl:wf.lookup t with
 |some k=>
  rw[hl]at h2
  rw[hs.1 k (zdG.2 ⟨hu,hl⟩)]
  exact h2
 |none=>
  rw[hl]at h2
  rw[hs.2 (fun k hk=>by have:=(zdG.1 hk).2;rw[hl]at this;cases this)]
  exact h2 hu
theorem RR.start {U:Nat→Bool} {nt:Nat} {ops:Array Oper} {env r:Regs} {tmps:Array Value} (h:RR φ w S U nt r tmps):RSt φ w S U nt ops env r [] tmps:=
 ⟨h.1,fun t ht=>fun hu=>h.2 t hu ht⟩
end Go.AI
namespace Go.AI
def zfn:V→List Nat
 | .sl k _ _=>[k]
 | .ptr b _ _=>[b]
 |_=>[]
def zCh:V→List Nat
 | .sl k _ _=>[k]
 |_=>[]
def zdM (sh:FuncId→Bool) (env r:Regs) (fr:Nat):SOp→Option (List Nat)
 | .load _ a| .store _ a _=>some (zfn (opd env r a))
 | .alloc _| .box _| .bslice .. | .mkMap| .mkSlice .. | .rangeS _=>some [fr]
 | .app _ _ a b=>some (fr::(zfn (opd env r a)++zfn (opd env r b)))
 | .iaddr _ x _| .slice _ x .. =>some (zCh (opd env r x))
 | .call f args=>if sh f=false∧(allD (args.map (opd env r))).isSome=true then some []else none
 | .len k _=>if k= .map then none else some []
 | .lookup .. | .mupd .. | .mentry .. | .estore .. | .nextS _| .callv .. | .copy .. | .clear .. =>none
 |_=>some []
theorem zia {h g:Heap} (h1:∀b,h.get b=g.get b) (h2:h.next=g.next):h=g:=by
 cases h;cases g
 simp only[Heap.mk.injEq]at*
 exact⟨funext h1,h2⟩
def zfI (app:App) (sh:FuncId→Bool) (fr:Nat) (env r:Regs) (so:SOp) (F:List Nat):Prop:=
 ∀(h g h1:Heap) (v:V),(∀b∈F,h.get b=g.get b)→zae app sh fr env r h so=some (v,h1)→
  ∃g1,zae app sh fr env r g so=some (v,g1)∧(∀b∈F,h1.get b=g1.get b)∧(∀b,b∉F→h1.get b=h.get b∧g1.get b=g.get b)∧h1.next=h.next∧g1.next=g.next
theorem zdT {app:App} {sh:FuncId→Bool} {f1 f2:Nat} {env r:Regs} {s1 s2:SOp} {F1 F2:List Nat} (a:zfI app sh f1 env r s1 F1) (b:zfI app sh f2 env r s2 F2) (hd:∀x∈F1,x∉F2) {h h1 h2:Heap} {v1 v2:V}
 (e1:zae app sh f1 env r h s1=some (v1,h1)) (e2:zae app sh f2 env r h1 s2=some (v2,h2)):∃h1',zae app sh f2 env r h s2=some (v2,h1')∧zae app sh f1 env r h1' s1=some (v1,h2):=by
 obtain⟨_,_,_,p3,p4,_⟩:=a h h h1 v1 (fun _ _=>rfl) e1
 obtain⟨k,q1,q2,q3,q4,q5⟩:=b h1 h h2 v2 (fun x hx=>(p3 x (fun hx1=>hd x hx1 hx)).1) e2
 obtain⟨m,t1,t2,t3,t4,t5⟩:=a h k h1 v1 (fun x hx=>((q3 x (hd x hx)).2).symm) e1
 refine⟨k,q1,?_⟩
 have:m=h2:=by
  refine zia (fun x=> ?_) (by rw[t5,q5,q4,p4])
  by_cases hx1:x∈F1
  ·rw[←t2 x hx1,(q3 x (hd x hx1)).1]
  ·rw[(t3 x hx1).2]
   by_cases hx2:x∈F2
   ·exact(q2 x hx2).symm
   ·rw[(q3 x hx2).2,(q3 x hx2).1,(p3 x hx1).1]
 rw[←this];exact t1
theorem zdU {app:App} {sh:FuncId→Bool} {fr:Nat} {env r:Regs} {so:SOp} {F:List Nat} (f:Heap→Option V) (he:∀h,zae app sh fr env r h so=(f h).map fun v=>(v,h)) (hf:∀h g:Heap,(∀b∈F,h.get b=g.get b)→f h=f g):zfI app sh fr env r so F:=by
 intro h g h1 v hag e
 rw[he]at e
 cases hx:f h with
 |none=>rw[hx]at e;cases e
 |some y=>
  rw[hx]at e
  simp only[Option.map_some,Option.some.injEq,Prod.mk.injEq]at e
  obtain⟨rfl,rfl⟩:=e
  refine⟨g,by rw[he,←hf h g hag,hx];rfl,hag,fun _ _=>⟨rfl,rfl⟩,rfl,rfl⟩
theorem zaX {app:App} {sh:FuncId→Bool} {fr:Nat} {env r:Regs} {so:SOp} {F:List Nat} (x:Option V) (he:∀h,zae app sh fr env r h so=x.map fun v=>(v,h)):zfI app sh fr env r so F:=
 zdU (fun _=>x) he (fun _ _ _=>rfl)
theorem zbB (h:Heap) (b c:Nat) (x:Blk):(h.put b x).get c=if c=b then some x else h.get c:=by
 simp only[Heap.put,Heap.set]
 by_cases hc:c=b
 ·subst hc;simp
 ·have:(c==b)=false:=by simpa using hc
  rw[this];simp[hc]
theorem zdm {app:App} {sh:FuncId→Bool} {fr:Nat} {env r:Regs} {so:SOp} {F:List Nat} (b:Nat) (hb:b∈F) (f:Heap→Option (V×Blk)) (he:∀h,zae app sh fr env r h so=(f h).map fun v=>(v.1,h.put b v.2))
 (hf:∀h g:Heap,(∀b∈F,h.get b=g.get b)→f h=f g):zfI app sh fr env r so F:=by
 intro h g h1 v hag e
 rw[he]at e
 cases hx:f h with
 |none=>rw[hx]at e;cases e
 |some y=>
  rw[hx]at e
  simp only[Option.map_some,Option.some.injEq,Prod.mk.injEq]at e
  obtain⟨rfl,rfl⟩:=e
  refine⟨g.put b y.2,by rw[he,←hf h g hag,hx];rfl,fun c hc=> ?_,fun c hc=> ?_,rfl,rfl⟩
  ·rw[zbB,zbB,hag c hc]
  ·have:c≠b:=fun h=>hc (h▸hb)
   rw[zbB,zbB,if_neg this,if_neg this];exact⟨rfl,rfl⟩
def zmk (h:Heap) (n:Nat):V→V→Option Blk
 | .ptr b i off,v=>match h.get b with
  |some (.els z l fz)=>if fz≤i then(l[i]?).bind fun e=>(e.upd off n v).map fun e=> .els z (l.set i e) fz else none
  |_=>none
 |_,_=>none
theorem zuv {h:Heap} {n b i off:Nat} {v:V}:zbz h n (.ptr b i off) v=(zmk h n (.ptr b i off) v).map fun y=>h.put b y:=by
 simp only[zbz,zmk]
 cases h.get b with
 |none=>rfl
 |some y=>
  cases y with
  |els z l fz=>
   dsimp only
   split
   ·cases l[i]? with
    |none=>rfl
    |some e=>simp only[Option.bind_some];cases V.upd e off n v<;>rfl
   ·rfl
  |_=>rfl
theorem zob {h g:Heap} {x:V} (hag:∀b∈zfn x,h.get b=g.get b):zbt h x=zbt g x:=by
 cases x with
 |sl b o n=>simp only[zbt,hag b (by simp[zfn])]
 |d x=>cases x<;>rfl
 |_=>rfl
theorem zca {app:App} {sh:FuncId→Bool} {fr:Nat} {env r:Regs} {so:SOp} {F:List Nat} (hb:zdM sh env r fr so=some F):zfI app sh fr env r so F:=by
 have bm:∀{α:Type} {x:Option α} {f:α→V} {h:Heap},x.map (fun v=>(f v,h))=(x.map f).map fun v=>(v,h):=by
  intro α x f h;cases x<;>rfl
 cases so with
 |load n a=>
  simp only[zdM,Option.some.injEq]at hb;subst hb
  refine zdU (fun h=>zdg h n (opd env r a)) (fun h=>rfl) fun h g hag=> ?_
  generalize opd env r a=x at hag
  cases x<;>first|rfl|(simp only[zdg];rw[hag _ (by simp[zfn])])
 |store n a x=>
  simp only[zdM,Option.some.injEq]at hb;subst hb
  cases hx:opd env r a with
  |ptr b i off=>
   refine zdm b (by simp[zfn]) (fun h=>(zmk h n (.ptr b i off) (opd env r x)).map fun y=>(.undef,y)) (fun h=> ?_) fun h g hag=> ?_
   ·simp only[zae,hx,zuv]
    cases zmk h n (.ptr b i off) (opd env r x)<;>rfl
   ·simp only[zmk,hag b (by simp[zfn])]
  |_=>intro h g h1 v hag e;simp[zae,hx,zbz]at e
 |alloc z=>
  simp only[zdM,Option.some.injEq]at hb;subst hb
  exact zdm fr (by simp) (fun _=>some (.ptr fr 0 0,.els z.cells.length [.d z] 0)) (fun h=>rfl) (fun _ _ _=>rfl)
 |box x=>
  simp only[zdM,Option.some.injEq]at hb;subst hb
  refine zdm fr (by simp) (fun _=>(boxed (opd env r x)).map fun b=>(.ptr fr 0 0,b)) (fun h=> ?_) (fun _ _ _=>rfl)
  simp only[zae];cases boxed (opd env r x)<;>rfl
 |bslice n z ps=>
  simp only[zdM,Option.some.injEq]at hb;subst hb
  refine zdm fr (by simp) (fun _=>(zaN z.cells.length (List.replicate n (.d z)) (ps.map fun(i,x)=>(i,opd env r x))).map fun l=>(.sl fr 0 n,.els z.cells.length l 0)) (fun h=> ?_) (fun _ _ _=>rfl)
  simp only[zae];cases zaN z.cells.length (List.replicate n (V.d z)) (ps.map fun(i,x)=>(i,opd env r x))<;>rfl
 |mkMap=>
  simp only[zdM,Option.some.injEq]at hb;subst hb
  exact zdm fr (by simp) (fun _=>some (.map fr,.map [] 0)) (fun h=>rfl) (fun _ _ _=>rfl)
 |mkSlice z bytes l c=>
  simp only[zdM,Option.some.injEq]at hb;subst hb
  refine zdm fr (by simp) (fun _=>(asNat (opd env r l)).bind fun l=>(asNat (opd env r c)).bind fun c=>if l≤c∧c*bytes≤roomBytes then some (.sl fr 0 l,.els z.cells.length (List.replicate l (.d z)) 0)else none) (fun h=> ?_) (fun _ _ _=>rfl)
  simp only[zae]
  cases asNat (opd env r l)with
  |none=>rfl
  |some l'=>
   cases asNat (opd env r c)with
   |none=>rfl
   |some c'=>simp only[Option.bind_some];split<;>rfl
 |rangeS x=>
  simp only[zdM,Option.some.injEq]at hb;subst hb
  refine zdm fr (by simp) (fun _=>match opd env r x with| .d (.str s)=>some (.it fr,.it s 0)|_=>none) (fun h=> ?_) (fun _ _ _=>rfl)
  simp only[zae]
  generalize opd env r x=y
  cases y with
  |d y=>cases y<;>rfl
  |_=>rfl
 |move x=>exact zaX (some (opd env r x)) fun h=>rfl
 |nilCheck x=>
  refine zaX (match isNil (opd env r x)with|some false=>some (opd env r x)|_=>none) fun h=> ?_
  simp only[zae]
  split<;>simp_all
 |bin op ty x y=>exact zaX (binV op ty (opd env r x) (opd env r y)) fun h=>rfl
 |un op x=>exact zaX (unV op (opd env r x)) fun h=>rfl
 |conv k x=>exact zaX (convV k (opd env r x)) fun h=>rfl
 |field off n x=>exact zaX (V.fld off n (opd env r x)) fun h=>rfl
 |extract x i=>exact zaX (extractV i (opd env r x)) fun h=>rfl
 |mx a=>exact zaX (maxV (a.map (opd env r))) fun h=>rfl
 |mn a=>exact zaX (minV (a.map (opd env r))) fun h=>rfl
 |pick c a b=>
  refine zaX (match opd env r c with| .d (.bool t)=>some (if t then opd env r a else opd env r b)|_=>none) fun h=> ?_
  simp only[zae]
  generalize opd env r c=y
  cases y with
  |d y=>cases y<;>rfl
  |_=>rfl
 |build z ps=>
  refine zaX ((zco (z.map .d) (ps.map fun(o,n,x)=>(o,n,opd env r x))).map V.ofCells) fun h=> ?_
  simp only[zae];cases zco (z.map .d) (ps.map fun(o,n,x)=>(o,n,opd env r x))<;>rfl
 |mkFunc f first cap=>
  refine zaX (some (if first.isEmpty&&cap.isEmpty then .d (.fn f)else .clo f (first.map (opd env r)) (cap.map (opd env r)))) fun h=> ?_
  simp only[zae];split<;>rfl
 |faddr off x=>
  refine zaX (match opd env r x with| .ptr b i o=>some (.ptr b i (o+off))| .rp y o=>some (.rp y (o+off))|_=>none) fun h=> ?_
  simp only[zae]
  generalize opd env r x=y
  cases y<;>rfl
 |aaddr len sz x i=>
  refine zaX ((asNat (opd env r i)).bind fun i=>if i<len then(match opd env r x with| .ptr b k o=>some (.ptr b k (o+i*sz))| .rp y o=>some (.rp y (o+i*sz))|_=>none)else none) fun h=> ?_
  simp only[zae]
  cases asNat (opd env r i)with
  |none=>rfl
  |some i=>
   simp only[Option.bind_some]
   split
   ·generalize opd env r x=y
    cases y<;>rfl
   ·rfl
 |index x i=>
  refine zaX ((asNat (opd env r i)).bind fun i=>match opd env r x with| .d (.str s)=>(s[i]?).map fun c=> .d (.int .u8 c.toNat)|_=>none) fun h=> ?_
  simp only[zae]
  cases asNat (opd env r i)with
  |none=>rfl
  |some i=>
   simp only[Option.bind_some]
   generalize opd env r x=y
   cases y with
   |d y=>
    cases y with
    |str s=>dsimp only;cases s[i]? <;>rfl
    |_=>rfl
   |_=>rfl
 |aindex len sz n x i=>
  refine zaX ((asNat (opd env r i)).bind fun i=>if i<len then V.fld (i*sz) n (opd env r x)else none) fun h=> ?_
  simp only[zae]
  cases asNat (opd env r i)with
  |none=>rfl
  |some i=>simp only[Option.bind_some];split<;>first|rfl|(cases V.fld (i*sz) n (opd env r x)<;>rfl)
 |len k x=>
  simp only[zdM]at hb
  split at hb
  ·cases hb
  ·rename_i hk
   refine zdU (fun h=>(zjJ h k (opd env r x)).map fun(n:Nat)=> .d (.int .i64 (n:Int))) (fun h=> ?_) fun h g _=> ?_
   ·simp only[zae];cases zjJ h k (opd env r x)<;>rfl
   ·cases k with
    |map=>exact absurd rfl hk
    |sl=>generalize opd env r x=y;cases y with
     |d y=>cases y<;>rfl
     |_=>rfl
    |str=>generalize opd env r x=y;cases y with
     |d y=>cases y<;>rfl
     |_=>rfl
 |iaddr sz x i=>
  simp only[zdM,Option.some.injEq]at hb;subst hb
  refine zdU (fun h=>(asNat (opd env r i)).bind fun i=>zbD h sz (opd env r x) i) (fun h=> ?_) fun h g hag=> ?_
  ·simp only[zae];cases asNat (opd env r i)<;>rfl
  ·cases asNat (opd env r i)with
   |none=>rfl
   |some i=>
    simp only[Option.bind_some]
    generalize opd env r x=y at hag
    cases y with
    |sl b o n=>simp only[zbD,hag b (by simp[zCh])]
    |d y=>cases y<;>rfl
    |_=>rfl
 |slice sz x lo hi mx=>
  simp only[zdM,Option.some.injEq]at hb;subst hb
  refine zdU (fun h=>(zbp (lo.map (opd env r))).bind fun lo=>(zbp (hi.map (opd env r))).bind fun hi=>(zbp (mx.map (opd env r))).bind fun mx=>zbo h sz (opd env r x) lo hi mx) (fun h=> ?_) fun h g hag=> ?_
  ·simp only[zae];cases zbp (lo.map (opd env r))<;>cases zbp (hi.map (opd env r))<;>cases zbp (mx.map (opd env r))<;>rfl
  ·cases zbp (lo.map (opd env r))with
   |none=>rfl
   |some lo=>
    cases zbp (hi.map (opd env r))with
    |none=>rfl
    |some hi=>
     cases zbp (mx.map (opd env r))with
     |none=>rfl
     |some mx=>
      simp only[Option.bind_some]
      generalize opd env r x=y at hag
      cases y with
      |sl b o n=>cases mx<;>simp only[zbo,hag b (by simp[zCh])]
      |d y=>cases y<;>cases mx<;>rfl
      |_=>rfl
 |call f args=>
  simp only[zdM]at hb
  split at hb
  ·rename_i hc
   obtain⟨ds,hds⟩:=Option.isSome_iff_exists.1 hc.2
   refine zaX ((app (.d (.fn f)) (ds.map .d) Heap.empty).bind fun(v,h2)=>(res 8 h2 v).map fun(x,_)=> .d x) fun h=> ?_
   simp only[zae]
   rw[if_neg (by rw[hc.1];simp)]
   simp only[zbj,hds,Option.bind_some]
   cases app (.d (.fn f)) (ds.map .d) Heap.empty with
   |none=>rfl
   |some p=>simp only[Option.bind_some];cases res 8 p.2 p.1<;>rfl
  ·cases hb
 |app sz bytes a b=>
  simp only[zdM,Option.some.injEq]at hb;subst hb
  intro h g h1 v hag e
  simp only[zae]at e⊢
  generalize opd env r a=x at hag e⊢
  generalize opd env r b=y at hag e⊢
  have hel:zbt h y=zbt g y:=zob fun c hc=>hag c (by simp[hc])
  unfold zlz at e⊢
  rw[←hel]
  cases hn:zbt h y with
  |none=>rw[hn]at e;cases e
  |some new=>
   rw[hn]at e
   simp only[Option.bind_some]at e⊢
   split at e
   ·rename_i hem
    rw[if_pos hem]
    split at e
    case isFalse=>cases e
    rename_i hsl
    rw[if_pos hsl]
    simp only[Option.some.injEq,Prod.mk.injEq]at e
    obtain⟨rfl,rfl⟩:=e
    exact⟨g,rfl,hag,fun _ _=>⟨rfl,rfl⟩,rfl,rfl⟩
   ·rename_i hem
    rw[if_neg hem]
    split at e
    case isFalse=>cases e
    rename_i hsz
    rw[if_pos hsz]
    split at e
    ·split at e
     case isFalse=>cases e
     rename_i hroom
     simp only[Option.some.injEq,Prod.mk.injEq]at e
     obtain⟨rfl,rfl⟩:=e
     refine⟨g.put fr (.els sz new 0),by simp only[if_pos hroom],fun c hc=> ?_,fun c hc=> ?_,rfl,rfl⟩
     ·rw[zbB,zbB,hag c hc]
     ·have:c≠fr:=fun h=>hc (by simp[h])
      rw[zbB,zbB,if_neg this,if_neg this];exact⟨rfl,rfl⟩
    ·rename_i k len
     have hk:h.get k=g.get k:=hag k (by simp[zfn])
     cases hh:h.get k with
     |none=>rw[hh]at e;simp at e
     |some yb=>
      rw[hh]at e
      cases yb with
      |els z l fz=>
       simp only at e
       split at e
       case isFalse=>cases e
       rename_i hc
       simp only[Option.some.injEq,Prod.mk.injEq]at e
       obtain⟨rfl,rfl⟩:=e
       have hdel:∀(h:Heap) c,c≠k→(h.del k).get c=h.get c:=fun h c hck=>by
        have:(c==k)=false:=by simpa using hck
        simp[Heap.del,Heap.set,this]
       refine⟨(g.del k).put fr (.els z (l++new) fz),by simp only[←hk,hh,if_pos hc],fun c hcF=> ?_,fun c hcF=> ?_,rfl,rfl⟩
       ·rw[zbB,zbB]
        split
        ·rfl
        ·by_cases hck:c=k
         ·subst hck;simp[Heap.del,Heap.set]
         ·rw[hdel h c hck,hdel g c hck,hag c hcF]
       ·have h1:c≠fr:=fun h=>hcF (by simp[h])
        have h2:c≠k:=fun h=>hcF (by simp[h,zfn])
        rw[zbB,zbB,if_neg h1,if_neg h1,hdel h c h2,hdel g c h2];exact⟨rfl,rfl⟩
      |_=>simp at e
    ·cases e
 |_=>simp[zdM]at hb
theorem zcZ {α:Type} {cs new:List α} {off:Nat} (h:off+new.length≤cs.length):(splice cs off new).length=cs.length:=by
 simp[splice];omega
theorem zdn {α:Type} {cs new:List α} {off:Nat} (h:off+new.length≤cs.length) (o:Nat):(splice cs off new)[o]? =if off≤o∧o<off+new.length then new[o-off]? else cs[o]? :=by
 unfold splice
 have h1:(cs.take off).length=off:=by simp;omega
 by_cases ho:o<off
 ·rw[if_neg (by omega),List.append_assoc,List.getElem?_append_left (by omega),List.getElem?_take,if_pos ho]
 ·by_cases hn:o<off+new.length
  ·rw[if_pos (by omega),List.append_assoc,List.getElem?_append_right (by omega),h1,List.getElem?_append_left (by omega)]
  ·rw[if_neg (by omega),List.append_assoc,List.getElem?_append_right (by omega),h1,List.getElem?_append_right (by omega),List.getElem?_drop]
   congr 1;omega
theorem zoc {α:Type} {cs a b:List α} {o p:Nat} (h1:o+a.length≤cs.length) (h2:p+b.length≤cs.length) (hd:o+a.length≤p∨p+b.length≤o):splice (splice cs o a) p b=splice (splice cs p b) o a:=by
 apply List.ext_getElem?
 intro k
 rw[zdn (by rw[zcZ h1];exact h2),zdn h1,zdn (by rw[zcZ h2];exact h1),zdn h2]
 split<;>split<;>first|rfl|omega
theorem zib {e v e1:V} {o n:Nat} (h:e.upd o n v=some e1):v.cells.length=n∧0<n∧o+n≤e.cells.length∧v.cells.all V.one=true∧e1=V.like e (splice e.cells o v.cells)∧e1.cells=splice e.cells o v.cells:=by
 unfold V.upd at h
 split at h
 case isFalse=>cases h
 rename_i hc
 obtain⟨h1,h2,h3,h4⟩:=hc
 simp only[Option.some.injEq]at h
 refine⟨h1,h2,h3,h4,h.symm,?_⟩
 rw[←h]
 refine zjN (zcZ (by omega)) fun x hx=> ?_
 obtain⟨k,hk⟩:=List.mem_iff_getElem?.1 hx
 rw[zdn (by omega)]at hk
 split at hk
 ·exact .inl (by rw[List.all_eq_true]at h4;exact h4 x (List.mem_of_getElem? hk))
 ·exact .inr (List.mem_of_getElem? hk)
theorem zml {e:V} {a b:List V} (hl:2≤e.cells.length):V.like (V.like e a) b=V.like e b:=by
 have key:V.like (V.ofCells a) b=V.ofCells b:=by
  unfold V.ofCells
  cases allD a<;>rfl
 cases e with
 |agg=>exact key
 |d x=>
  cases x with
  |agg=>exact key
  |_=>simp[V.cells,D.cells]at hl
 |undef=>simp[V.cells]at hl
 |_=>simp[V.cells]at hl
theorem zyx {e v u e1 e2:V} {o n p m:Nat} (h1:e.upd o n v=some e1) (h2:e1.upd p m u=some e2) (hd:o+n≤p∨p+m≤o):∃e1',e.upd p m u=some e1'∧e1'.upd o n v=some e2:=by
 obtain⟨a1,a2,a3,a4,a5,a6⟩:=zib h1
 obtain⟨b1,b2,b3,b4,b5,b6⟩:=zib h2
 rw[a6,zcZ (by omega)]at b3
 have hl:2≤e.cells.length:=by omega
 have e1':e.upd p m u=some (V.like e (splice e.cells p u.cells)):=by
  unfold V.upd;rw[if_pos ⟨b1,b2,b3,b4⟩]
 obtain⟨_,_,_,_,_,c6⟩:=zib e1'
 refine⟨_,e1',?_⟩
 unfold V.upd
 rw[c6,if_pos ⟨a1,a2,by rw[zcZ (by omega)];exact a3,a4⟩]
 rw[zml hl,b5,a6,a5,zml hl,zoc (by omega) (by omega) (by omega)]
theorem zCi {e v e1:V} {o n p:Nat} {m:Option Nat} (h:e.upd o n v=some e1) (hd:o+n≤p∨p+m.getD 1≤o):e1.sub p m=e.sub p m:=by
 obtain⟨a1,a2,a3,a4,a5,a6⟩:=zib h
 cases m with
 |none=>
  simp only[V.sub,a6]
  rw[zdn (by omega),if_neg (by simp at hd;omega)]
 |some k=>
  simp only[V.sub,a6,zcZ (show o+v.cells.length≤e.cells.length by omega)]
  simp only[Option.getD_some]at hd
  split
  ·congr 2
   apply List.ext_getElem?
   intro i
   rw[List.getElem?_take,List.getElem?_take]
   split
   ·rw[List.getElem?_drop,List.getElem?_drop,zdn (by omega),if_neg (by omega)]
   ·rfl
  ·rfl
theorem zdo {h h1:Heap} {n b i o:Nat} {v:V} (hs:zbz h n (.ptr b i o) v=some h1):∃z l fz e e1,h.get b=some (.els z l fz)∧fz≤i∧l[i]? =some e∧e.upd o n v=some e1∧h1=h.put b (.els z (l.set i e1) fz):=by
 simp only[zbz]at hs
 split at hs
 ·rename_i z l fz hb
  split at hs
  ·rename_i hf
   obtain⟨e,he,hs⟩:=Option.bind_eq_some_iff.1 hs
   obtain⟨e1,hu,hs⟩:=Option.map_eq_some_iff.1 hs
   exact⟨z,l,fz,e,e1,hb,hf,he,hu,hs.symm⟩
  ·cases hs
 ·cases hs
theorem zgf {h:Heap} {n b i o z fz:Nat} {l:List V} {v e e1:V} (hb:h.get b=some (.els z l fz)) (hf:fz≤i) (he:l[i]? =some e) (hu:e.upd o n v=some e1):zbz h n (.ptr b i o) v=some (h.put b (.els z (l.set i e1) fz)):=by
 simp only[zbz,hb,if_pos hf,he,Option.bind_some,hu,Option.map_some]
theorem zjV {h h1:Heap} {n b i o i' p:Nat} {m:Option Nat} {v:V} (hs:zbz h n (.ptr b i o) v=some h1) (hd:i≠i'∨o+n≤p∨p+m.getD 1≤o):zdg h1 m (.ptr b i' p)=zdg h m (.ptr b i' p):=by
 obtain⟨z,l,fz,e,e1,hb,hf,he,hu,rfl⟩:=zdo hs
 simp only[zdg,zbB,if_true,hb]
 by_cases hii:i=i'
 ·subst hii
  have hl:i<l.length:=by
   rcases Nat.lt_or_ge i l.length with h|h
   ·exact h
   ·rw[List.getElem?_eq_none h]at he;cases he
  rw[List.getElem?_set_self hl,he]
  simp only[Option.bind_some]
  exact zCi hu (hd.resolve_left (fun h=>h rfl))
 ·rw[List.getElem?_set_ne hii]
theorem zod (h:Heap) (b:Nat) (x y:Blk):(h.put b x).put b y=h.put b y:=by
 refine zia (fun c=> ?_) rfl
 simp only[zbB]
 split<;>rfl
theorem zoe {h h1 h2:Heap} {n m b i o i' p:Nat} {v u:V} (e1:zbz h n (.ptr b i o) v=some h1) (e2:zbz h1 m (.ptr b i' p) u=some h2) (hd:i≠i'∨o+n≤p∨p+m≤o):
 ∃h1',zbz h m (.ptr b i' p) u=some h1'∧zbz h1' n (.ptr b i o) v=some h2:=by
 obtain⟨z,l,fz,x,x1,hb,hf,hx,hu,rfl⟩:=zdo e1
 obtain⟨z',l',fz',y,y1,hb',hf',hy,hu',rfl⟩:=zdo e2
 rw[zbB,if_pos rfl]at hb'
 simp only[Option.some.injEq,Blk.els.injEq]at hb'
 obtain⟨rfl,rfl,rfl⟩:=hb'
 rw[zod]
 by_cases hii:i=i'
 ·subst hii
  have hl:i<l.length:=by
   rcases Nat.lt_or_ge i l.length with h|h
   ·exact h
   ·rw[List.getElem?_eq_none h]at hx;cases hx
  rw[List.getElem?_set_self hl]at hy
  simp only[Option.some.injEq]at hy;subst hy
  obtain⟨w,w1,w2⟩:=zyx hu hu' (hd.resolve_left (fun h=>h rfl))
  refine⟨_,zgf hb hf' hx w1,?_⟩
  rw[zgf (h:=h.put b (.els z (l.set i w) fz)) (by rw[zbB,if_pos rfl]) hf (List.getElem?_set_self hl) w2,zod]
  simp[List.set_set]
 ·rw[List.getElem?_set_ne hii]at hy
  refine⟨_,zgf hb hf' hy hu',?_⟩
  have hx':(l.set i' y1)[i]? =some x:=by rw[List.getElem?_set_ne (Ne.symm hii)];exact hx
  rw[zgf (h:=h.put b (.els z (l.set i' y1) fz)) (by rw[zbB,if_pos rfl]) hf hx' hu,zod,List.set_comm _ _ hii]
theorem zof {h h1:Heap} {n b i o sz k:Nat} {v x:V} (hs:zbz h n (.ptr b i o) v=some h1):zbD h1 sz x k=zbD h sz x k:=by
 obtain⟨z,l,fz,e,e1,hb,hf,he,hu,rfl⟩:=zdo hs
 cases x with
 |sl c q len=>
  simp only[zbD,zbB]
  by_cases hc:c=b
  ·subst hc;rw[if_pos rfl,hb];simp
  ·rw[if_neg hc]
 |d x=>cases x<;>rfl
 |_=>rfl
theorem zog {h h1:Heap} {n b i o sz:Nat} {v x:V} {lo hi mx:Option Nat} (hs:zbz h n (.ptr b i o) v=some h1):zbo h1 sz x lo hi mx=zbo h sz x lo hi mx:=by
 obtain⟨z,l,fz,e,e1,hb,hf,he,hu,rfl⟩:=zdo hs
 cases x with
 |sl c q len=>
  cases mx with
  |none=>
   simp only[zbo,zbB]
   by_cases hc:c=b
   ·subst hc;rw[if_pos rfl,hb];simp
   ·rw[if_neg hc]
  |some _=>rfl
 |d x=>cases x<;>cases mx<;>rfl
 |_=>rfl
theorem zjW {app:App} {sh:FuncId→Bool} {fr:Nat} {env r:Regs} {s:SOp} (c:zfI app sh fr env r s []) {h h1:Heap} {v:V} (e:zae app sh fr env r h s=some (v,h1)):h1=h∧∀g,zae app sh fr env r g s=some (v,g):=by
 obtain⟨_,_,_,p3,p4,_⟩:=c h h h1 v (by simp) e
 refine⟨zia (fun b=>(p3 b (by simp)).1) p4,fun g=> ?_⟩
 obtain⟨g1,q1,_,q3,_,q5⟩:=c h g h1 v (by simp) e
 have:g1=g:=zia (fun b=>(q3 b (by simp)).2) q5
 rw[this]at q1;exact q1
theorem zfJ {sh:FuncId→Bool} {env r:Regs} {fr:Nat} {s:SOp} {l:List Nat} (h:zcp env r fr s=some (.blocks l)) (ht:touch sh s≠5):∃F,zdM sh env r fr s=some F∧∀x∈F,x∈l:=by
 cases s with
 |load n a=>
  simp only[zcp]at h
  split at h
  ·cases h
  ·rename_i y o hy
   simp only[Option.some.injEq,Foot.blocks.injEq]at h;subst h
   exact⟨_,rfl,by simp[hy,zfn]⟩
  ·cases h
 |store n a x=>
  simp only[zcp]at h
  split at h<;>cases h
 |alloc z=>simp only[zcp,Option.some.injEq,Foot.blocks.injEq]at h;subst h;exact⟨_,rfl,fun _ h=>h⟩
 |box z=>simp only[zcp,Option.some.injEq,Foot.blocks.injEq]at h;subst h;exact⟨_,rfl,fun _ h=>h⟩
 |bslice n z ps=>simp only[zcp,Option.some.injEq,Foot.blocks.injEq]at h;subst h;exact⟨_,rfl,fun _ h=>h⟩
 |mkMap=>simp only[zcp,Option.some.injEq,Foot.blocks.injEq]at h;subst h;exact⟨_,rfl,fun _ h=>h⟩
 |mkSlice z b l' c=>simp only[zcp,Option.some.injEq,Foot.blocks.injEq]at h;subst h;exact⟨_,rfl,fun _ h=>h⟩
 |rangeS x=>simp only[zcp,Option.some.injEq,Foot.blocks.injEq]at h;subst h;exact⟨_,rfl,fun _ h=>h⟩
 |app sz b x y=>
  simp only[zcp]at h
  split at h
  ·rename_i a c ha hc
   simp only[Option.some.injEq,Foot.blocks.injEq]at h;subst h
   exact⟨_,rfl,by simp[ha,hc,zfn]⟩
  ·rename_i k o n c ha hc
   simp only[Option.some.injEq,Foot.blocks.injEq]at h;subst h
   exact⟨_,rfl,by simp[ha,hc,zfn]⟩
  ·rename_i c k o n ha hc
   simp only[Option.some.injEq,Foot.blocks.injEq]at h;subst h
   exact⟨_,rfl,by simp[ha,hc,zfn]⟩
  ·rename_i k o n k' o' n' ha hc
   simp only[Option.some.injEq,Foot.blocks.injEq]at h;subst h
   exact⟨_,rfl,by simp[ha,hc,zfn]⟩
  ·cases h
 |call f args=>
  simp only[zcp]at h
  cases hd:allD (args.map (opd env r))with
  |none=>rw[hd]at h;cases h
  |some ds=>
   rw[hd]at h
   simp only[Option.some.injEq,Foot.blocks.injEq]at h;subst h
   refine⟨[],?_,fun _ h=>h⟩
   simp only[zdM,hd,Option.isSome_some]
   cases hf:sh f with
   |true=>simp[touch,hf]at ht
   |false=>simp
 |iaddr sz x i=>
  simp only[zcp]at h
  split at h
  ·rename_i k o n hx
   simp only[Option.some.injEq,Foot.blocks.injEq]at h;subst h
   exact⟨_,rfl,by simp[hx,zCh]⟩
  ·rename_i y hx
   simp only[Option.some.injEq,Foot.blocks.injEq]at h;subst h
   exact⟨_,rfl,by simp[hx,zCh]⟩
  ·cases h
 |slice sz x lo hi mx=>
  simp only[zcp]at h
  split at h
  ·rename_i k o n hx
   simp only[Option.some.injEq,Foot.blocks.injEq]at h;subst h
   exact⟨_,rfl,by simp[hx,zCh]⟩
  ·rename_i y hx
   simp only[Option.some.injEq,Foot.blocks.injEq]at h;subst h
   exact⟨_,rfl,by simp[hx,zCh]⟩
  ·cases h
 |_=>simp[zcp]at h
end Go.AI
namespace Go.AI
theorem zrr {sh:FuncId→Bool} {b:Array Nat} {ops:List (SOp×Option (Nat×Bool))} {ps:List (Nat×Nat)} (h:zks sh b ops=some ps) {i j:Nat} {x y:SOp×Option (Nat×Bool)} (hi:ops[i]? =some x) (hj:ops[j]? =some y) (hij:i<j)
 (hb:(b.getD j 0).testBit i=false) (h1:touch sh x.1≠0) (h2:touch sh y.1≠0) (hs:(zdQ x.1 y.1&&x.2.isNone&&y.2.isNone)=false):
 touch sh x.1≠5∧touch sh y.1≠5∧((i,j)∈ps∨((touch sh x.1=1∨touch sh x.1=7)∧(touch sh y.1=1∨touch sh y.1=7))∨(touch sh x.1=3∧touch sh y.1=3)∨(touch sh x.1=2∧touch sh y.1=7)∨(touch sh x.1=7∧touch sh y.1=2)∨((touch sh x.1=1∨touch sh x.1=7)∧touch sh y.1=4)∨(touch sh x.1=4∧(touch sh y.1=1∨touch sh y.1=7))):=by
 unfold zks at h
 have ml:∀{k:Nat} {z:SOp×Option (Nat×Bool)},ops[k]? =some z→touch sh z.1≠0→(k,touch sh z.1)∈((ops.zipIdx.map fun(o,i)=>(i,touch sh o.1)).filter fun x=>x.2 !=0):=by
  intro k z hk hz
  rw[List.mem_filter]
  refine⟨List.mem_map.2 ⟨(z,k),by rw[List.mem_zipIdx_iff_getElem?];exact hk,rfl⟩,by simpa using hz⟩
 generalize hl:((ops.zipIdx.map fun(o,i)=>(i,touch sh o.1)).filter fun x=>x.2 !=0)=l at h ml
 have mi:=ml hi h1
 have mj:=ml hj h2
 simp only at h
 generalize hps:((l.flatMap fun(j,b')=>(l.filter fun(i,_)=>i<j&& !(b.getD j 0).testBit i).map fun(i,a)=>(i,j,a,b')).filter fun(i,j,_,_)=>
  !(match ops[i]?,ops[j]? with|some x,some y=>zdQ x.1 y.1&&x.2.isNone&&y.2.isNone|_,_=>false))=q at h
 have mq:(i,j,touch sh x.1,touch sh y.1)∈q:=by
  rw[←hps,List.mem_filter]
  refine⟨List.mem_flatMap.2 ⟨(j,touch sh y.1),mj,List.mem_map.2 ⟨(i,touch sh x.1),List.mem_filter.2 ⟨mi,?_⟩,rfl⟩⟩,?_⟩
  ·show(decide (i<j)&& !(b.getD j 0).testBit i)=true
   rw[hb];simp[hij]
  ·simp only[hi,hj,hs,Bool.not_false]
 split at h
 ·cases h
 rename_i hany
 have hq:∀z∈q,¬((z.2.2.1==5||z.2.2.2==5)=true):=fun z hz hh=>hany (List.any_eq_true.2 ⟨z,hz,hh⟩)
 have h5:=hq _ mq
 simp only[Bool.or_eq_true,beq_iff_eq,not_or]at h5
 refine⟨h5.1,h5.2,?_⟩
 simp only[Option.some.injEq]at h
 by_cases hx:(!((touch sh x.1==1||touch sh x.1==7)&&(touch sh y.1==1||touch sh y.1==7)||(touch sh x.1==3&&touch sh y.1==3)||(touch sh x.1==2&&touch sh y.1==7)||(touch sh x.1==7&&touch sh y.1==2)||((touch sh x.1==1||touch sh x.1==7)&&touch sh y.1==4)||(touch sh x.1==4&&(touch sh y.1==1||touch sh y.1==7))))=true
 ·refine .inl ?_
  rw[←h]
  exact List.mem_map.2 ⟨_,List.mem_filter.2 ⟨mq,hx⟩,rfl⟩
 ·refine .inr ?_
  simp only[Bool.not_eq_true,Bool.not_eq_false',Bool.or_eq_true,Bool.and_eq_true,beq_iff_eq]at hx
  rcases hx with((((hx|hx)|hx)|hx)|hx)|hx
  ·exact .inl hx
  ·exact .inr (.inl hx)
  ·exact .inr (.inr (.inl hx))
  ·exact .inr (.inr (.inr (.inl hx)))
  ·exact .inr (.inr (.inr (.inr (.inl hx))))
  ·exact .inr (.inr (.inr (.inr (.inr hx))))
theorem zBd {sh:FuncId→Bool} {env r:Regs} {fr:Nat} {s:SOp} (h:touch sh s=0):zdM sh env r fr s=some []:=by
 cases s<;>first|rfl|(simp[touch]at h;done)|skip
 ·rename_i f a;simp only[touch]at h;split at h<;>simp at h
 ·rename_i k x;cases k<;>first|rfl|simp[touch]at h
theorem zgN {sh:FuncId→Bool} {env r:Regs} {fr:Nat} {s:SOp} {b i o n:Nat} (h:zcp env r fr s=some (.cells b i o n)):
 (∃m a,s= .load m a∧opd env r a= .ptr b i o∧n=m.getD 1)∨∃a x,s= .store n a x∧opd env r a= .ptr b i o:=by
 cases s with
 |load m a=>
  simp only[zcp]at h
  split at h
  ·rename_i b' i' o' hx
   simp only[Option.some.injEq,Foot.cells.injEq]at h
   obtain⟨rfl,rfl,rfl,rfl⟩:=h
   exact .inl ⟨m,a,rfl,hx,rfl⟩
  ·simp at h
  ·cases h
 |store m a x=>
  simp only[zcp]at h
  split at h
  ·rename_i b' i' o' hx
   simp only[Option.some.injEq,Foot.cells.injEq]at h
   obtain⟨rfl,rfl,rfl,rfl⟩:=h
   exact .inr ⟨a,x,rfl,hx⟩
  ·cases h
 |app sz b x y=>simp only[zcp]at h;split at h<;>simp at h
 |call f args=>simp only[zcp]at h;split at h<;>simp at h
 |iaddr sz x i=>simp only[zcp]at h;split at h<;>simp at h
 |slice sz x lo hi mx=>simp only[zcp]at h;split at h<;>simp at h
 |_=>simp[zcp]at h
theorem zbv {α β γ:Type} {x:Option α} {f:α→β×γ} {a:β} {b:γ} (h:x.map f=some (a,b)):∃z,x=some z∧a=(f z).1∧b=(f z).2:=by
 cases x with
 |none=>cases h
 |some z=>exact⟨z,rfl,by simp at h;rw[h],by simp at h;rw[h]⟩
theorem zrs {app:App} {sh:FuncId→Bool} {f1 f2:Nat} {env r:Regs} {s1 s2:SOp} {x y:Foot} (h1:zcp env r f1 s1=some x) (h2:zcp env r f2 s2=some y) (hd:zcT x y=true) (t1:touch sh s1≠5) (t2:touch sh s2≠5) {h h' h'':Heap} {v1 v2:V}
 (e1:zae app sh f1 env r h s1=some (v1,h')) (e2:zae app sh f2 env r h' s2=some (v2,h'')):∃k,zae app sh f2 env r h s2=some (v2,k)∧zae app sh f1 env r k s1=some (v1,h''):=by
 have cb:∀{s:SOp} {f b i o n:Nat},zcp env r f s=some (.cells b i o n)→zdM sh env r f s=some [b]:=by
  intro s f b i o n hf
  rcases zgN (sh:=sh) hf with⟨m,a,rfl,hx,_⟩|⟨a,z,rfl,hx⟩<;>simp[zdM,hx,zfn]
 cases x with
 |blocks l=>
  obtain⟨F1,b1,c1⟩:=zfJ (sh:=sh) h1 t1
  cases y with
  |blocks l'=>
   obtain⟨F2,b2,c2⟩:=zfJ (sh:=sh) h2 t2
   simp only[zcT,List.all_eq_true,bne_iff_ne,ne_eq]at hd
   exact zdT (zca b1) (zca b2) (fun z hz hz2=>hd z (c1 z hz) z (c2 z hz2) rfl) e1 e2
  |cells b i o n=>
   simp only[zcT,List.all_eq_true,bne_iff_ne,ne_eq]at hd
   exact zdT (zca b1) (zca (cb h2)) (fun z hz hz2=>hd z (c1 z hz) (by simpa using hz2)) e1 e2
 |cells b i o n=>
  cases y with
  |blocks l'=>
   obtain⟨F2,b2,c2⟩:=zfJ (sh:=sh) h2 t2
   simp only[zcT,List.all_eq_true,bne_iff_ne,ne_eq]at hd
   exact zdT (zca (cb h1)) (zca b2) (fun z hz hz2=>hd z (c2 z hz2) (by simpa using hz)) e1 e2
  |cells b' i' o' n'=>
   by_cases hb:b=b'
   ·subst hb
    simp only[zcT,bne_self_eq_false,Bool.false_or,Bool.or_eq_true,bne_iff_ne,ne_eq,decide_eq_true_eq]at hd
    rcases zgN (sh:=sh) h1 with⟨m,a,rfl,hx,hm⟩|⟨a,z,rfl,hx⟩<;>rcases zgN (sh:=sh) h2 with⟨m',a',rfl,hx',hm'⟩|⟨a',z',rfl,hx'⟩<;>simp only[zae,hx,hx']at e1 e2⊢
    ·obtain⟨y1,g1,g2⟩:=zbv e1
     obtain⟨rfl,rfl⟩:=g2
     obtain⟨y2,g3,g4⟩:=zbv e2
     obtain⟨rfl,rfl⟩:=g4
     exact⟨_,by rw[g3];rfl,by rw[g1];rfl⟩
    ·obtain⟨y1,g1,g2⟩:=zbv e1
     obtain⟨rfl,rfl⟩:=g2
     obtain⟨y2,g3,g4⟩:=zbv e2
     obtain⟨rfl,rfl⟩:=g4
     exact⟨_,by rw[g3];rfl,by rw[zjV g3 (by rw[←hm];omega),g1];rfl⟩
    ·obtain⟨y1,g1,g2⟩:=zbv e1
     obtain⟨rfl,rfl⟩:=g2
     obtain⟨y2,g3,g4⟩:=zbv e2
     obtain⟨rfl,rfl⟩:=g4
     rw[zjV g1 (by rw[←hm'];omega)]at g3
     exact⟨_,by rw[g3];rfl,by rw[g1];rfl⟩
    ·obtain⟨y1,g1,g2⟩:=zbv e1
     obtain⟨rfl,rfl⟩:=g2
     obtain⟨y2,g3,g4⟩:=zbv e2
     obtain⟨rfl,rfl⟩:=g4
     obtain⟨k,p1,p2⟩:=zoe g1 g3 (by omega)
     exact⟨k,by rw[p1];rfl,by rw[p2];rfl⟩
   ·exact zdT (zca (cb h1)) (zca (cb h2)) (fun z hz hz2=>hb (by simp at hz hz2;rw[←hz,hz2])) e1 e2
theorem zda {app:App} {sh:FuncId→Bool} {f:Nat} {env r:Regs} {s:SOp} (ht:touch sh s=1∨touch sh s=7) {h h':Heap} {v:V} (e:zae app sh f env r h s=some (v,h')):h'=h:=by
 cases s with
 |load n a=>simp only[zae]at e;obtain⟨z,_,_,g⟩:=zbv e;exact g
 |iaddr sz x i=>
  simp only[zae]at e
  obtain⟨k,_,e⟩:=Option.bind_eq_some_iff.1 e
  obtain⟨z,_,_,g⟩:=zbv e;exact g
 |slice sz x lo hi mx=>
  simp only[zae]at e
  obtain⟨k,_,e⟩:=Option.bind_eq_some_iff.1 e
  obtain⟨k,_,e⟩:=Option.bind_eq_some_iff.1 e
  obtain⟨k,_,e⟩:=Option.bind_eq_some_iff.1 e
  obtain⟨z,_,_,g⟩:=zbv e;exact g
 |call f a=>simp only[touch]at ht;split at ht<;>simp at ht
 |len k x=>cases k<;>simp[touch]at ht
 |_=>simp[touch]at ht
theorem ziO {app:App} {sh:FuncId→Bool} {f f':Nat} {env r:Regs} {s:SOp} (ht:touch sh s=7) {n:Nat} {a x:Opd} {h h1:Heap} {u:V} (e:zae app sh f' env r h (.store n a x)=some (u,h1)) (v:V):zae app sh f env r h1 s=some (v,h1)↔zae app sh f env r h s=some (v,h):=by
 simp only[zae]at e
 obtain⟨h',e1,_,rfl⟩:=zbv e
 have hptr:∃b i o,opd env r a= .ptr b i o:=by
  cases ha:opd env r a<;>rw[ha]at e1<;>first|exact⟨_,_,_,rfl⟩|simp[zbz]at e1
 obtain⟨b,i,o,ha⟩:=hptr
 rw[ha]at e1
 cases s with
 |iaddr sz y j=>
  simp only[zae]
  cases asNat (opd env r j)with
  |none=>simp
  |some k=>simp only[Option.bind_some,zof e1];cases zbD h sz (opd env r y) k<;>simp
 |slice sz y lo hi mx=>
  simp only[zae]
  cases zbp (lo.map (opd env r))<;>cases zbp (hi.map (opd env r))<;>cases zbp (mx.map (opd env r))<;>simp only[Option.bind_none,Option.bind_some,zog e1]<;>first|(simp;done)|skip
  all_goals (cases zbo h sz (opd env r y) _ _ _<;>simp)
 |call f a=>simp only[touch]at ht;split at ht<;>simp at ht
 |len k x=>cases k<;>simp[touch]at ht
 |_=>simp[touch]at ht
def zIq:D→CK| .int .. => .int| .str _=> .str|_=> .bool
theorem zhE:∀(ks:List CK) (xs:List D) (b:Bool),zaI ks xs xs=some b→ks=xs.map zIq
 |[],[],_,_=>rfl
 |[],_::_,b,h=>by simp[zaI]at h
 |_::_,[],b,h=>by simp[zaI]at h
 |c::ks,x::xs,b,h=>by
  simp only[zaI]at h
  obtain⟨a,h1,h⟩:=Option.bind_eq_some_iff.1 h
  obtain⟨d,h2,_⟩:=Option.map_eq_some_iff.1 h
  rw[List.map_cons,←zhE ks xs d h2]
  congr 1
  cases c<;>cases x<;>simp_all [zbm,zIq]
theorem zjX {ks:List CK} {k:D} {b:Bool} (h:zed ks k k=some b):ks=k.cells.map zIq:=by
 unfold zed at h
 split at h
 ·exact zhE _ _ _ h
 ·cases h
theorem zpx {ks:List CK} {k:D} {es:List (D×V×Nat)} {x:Option (V×Nat)} (h:zgH ks k es=some x):zed ks k k=some true∧zdJ ks k es=some x:=by
 unfold zgH at h
 split at h
 ·rename_i hk;exact⟨hk,h⟩
 ·cases h
theorem zhF {ks:List CK} {k:D} {l:List (D×V×Nat)}:∀(es:List (D×V×Nat)),zdJ ks k es=some none→zdJ ks k (es++l)=zdJ ks k l
 |[],_=>rfl
 |(k',v,t)::es,h=>by
  simp only[zdJ]at h
  obtain⟨e,h1,h⟩:=Option.bind_eq_some_iff.1 h
  cases e with
  |true=>simp at h
  |false=>
   simp only[Bool.false_eq_true,if_false]at h
   rw[List.cons_append]
   simp only[zdJ,h1,Option.bind_some,Bool.false_eq_true,if_false]
   exact zhF es h
theorem zpy {env r:Regs} {x y:Opd} (h:x.same y=true):opd env r x=opd env r y:=by
 cases x<;>cases y<;>simp[Opd.same]at h<;>subst h<;>rfl
theorem zyy {x y:D} (h:x.sameZ y=true):x=y:=by
 cases x<;>cases y<;>simp[D.sameZ]at h
 ·subst h;rfl
 ·obtain⟨rfl,rfl⟩:=h;rfl
theorem zrt {app:App} {sh:FuncId→Bool} {f1 f2:Nat} {env r:Regs} {s1 s2:SOp} (hse:zdQ s1 s2=true) {h h1 h2:Heap} {v1 v2:V} (e1:zae app sh f1 env r h s1=some (v1,h1)) (e2:zae app sh f2 env r h1 s2=some (v2,h2)):
 ∃k,zae app sh f2 env r h s2=some (v2,k)∧zae app sh f1 env r k s1=some (v1,h2):=by
 unfold zdQ at hse
 split at hse
 case h_2=>cases hse
 rename_i ks z m k ks' z' m' k'
 simp only[Bool.and_eq_true]at hse
 obtain⟨⟨hz,hm⟩,hk⟩:=hse
 have hz:=zyy hz
 subst hz
 have hm:opd env r m=opd env r m':=zpy hm
 have hk:opd env r k=opd env r k':=zpy hk
 simp only[zae,hm,hk,Bool.false_eq_true,if_false]at e1 e2⊢
 generalize opd env r m'=mv at e1 e2⊢
 generalize opd env r k'=kv at e1 e2⊢
 cases kv with
 |d kd=>
  simp only at e1 e2⊢
  obtain⟨⟨y,is⟩,g1,g2,rfl⟩:=zbv e1
  dsimp only at g2
  subst g2
  cases mv with
  |map b=>
   simp only at e2⊢
   cases hb:h1.get b with
   |none=>rw[hb]at e2;cases e2
   |some blk=>
    rw[hb]at e2
    cases blk with
    |map es clock=>
     simp only[hb]at e2⊢
     obtain⟨q,q1,q2⟩:=Option.map_eq_some_iff.1 e2
     refine⟨h2,by rw[q1];exact congrArg some q2,?_⟩
     cases q with
     |some vt=>
      simp only[Prod.mk.injEq]at q2
      obtain⟨_,rfl⟩:=q2
      rw[g1];rfl
     |none=>
      simp only[Prod.mk.injEq]at q2
      obtain⟨_,rfl⟩:=q2
      obtain⟨k1,k2⟩:=zpx q1
      unfold zcz at g1⊢
      simp only[hb]at g1
      obtain⟨x,x1,x2⟩:=Option.map_eq_some_iff.1 g1
      obtain⟨k3,k4⟩:=zpx x1
      have hkk:ks=ks':=by rw[zjX k1,zjX k3]
      subst hkk
      rw[k2]at k4
      cases k4
      simp only[Prod.mk.injEq]at x2
      obtain⟨rfl,_⟩:=x2
      have hg:(h1.put b (.map (es++[(kd,.d z,clock)]) (clock+1))).get b=some (.map (es++[(kd,.d z,clock)]) (clock+1)):=by simp[Heap.put,Heap.set]
      simp only[hg,zgH,k1,if_true,zhF es k2]
      simp[zdJ,k1]
    |_=>simp at e2
  |_=>simp at e2
 |_=>simp at e1
def Same (h g:Heap):Prop:=∀b,g.get b=h.get b∨∃z l f f',h.get b=some (.els z l f)∧g.get b=some (.els z l f')
theorem Same.refl {h:Heap}:Same h h:=fun _=> .inl rfl
theorem Same.symm {h g:Heap} (a:Same h g):Same g h:=fun c=>by
 rcases a c with a|⟨z,l,f,f',a1,a2⟩
 ·exact .inl a.symm
 ·exact .inr ⟨z,l,f',f,a2,a1⟩
theorem Same.trans {h g k:Heap} (a:Same h g) (b:Same g k):Same h k:=by
 intro c
 rcases a c with a|⟨z,l,f,f',a1,a2⟩<;>rcases b c with b|⟨z',l',f1,f1',b1,b2⟩
 ·exact .inl (b.trans a)
 ·exact .inr ⟨z',l',f1,f1',a▸b1,b2⟩
 ·exact .inr ⟨z,l,f,f',a1,b.trans a2⟩
 ·rw[a2]at b1;cases b1;exact .inr ⟨z,l,f,f1',a1,b2⟩
theorem zoh {h:Heap} {b n:Nat}:Same h (freeze h b n):=by
 intro c
 unfold freeze
 split
 ·rename_i z l fz e
  split
  ·exact .inl rfl
  ·by_cases hc:c=b
   ·subst hc;exact .inr ⟨z,l,fz,n,e,by simp[Heap.put,Heap.set]⟩
   ·left;rw[zbB,if_neg hc]
 ·exact .inl rfl
theorem zCj {f:Heap→V→Option (D×Heap)} (hf:∀h v x g,f h v=some (x,g)→Same h g):∀l h xs g,zbw f h l=some (xs,g)→Same h g:=by
 intro l
 induction l with
 |nil=>intro h xs g e;simp only[zbw,Option.some.injEq,Prod.mk.injEq]at e;obtain⟨_,rfl⟩:=e;exact .refl
 |cons v r ih=>
  intro h xs g e
  simp only[zbw]at e
  obtain⟨⟨x,h1⟩,e1,e⟩:=zap e
  obtain⟨⟨ys,h2⟩,e2,e3⟩:=zav e
  simp only[Prod.mk.injEq]at e3
  obtain⟨_,rfl⟩:=e3
  exact(hf _ _ _ _ e1).trans (ih _ _ _ e2)
theorem ziP {f:Heap→V→Option (D×Heap)} (hf:∀h v x g,f h v=some (x,g)→Same h g) {l:List V} {h g:Heap} {xs:List D} (e:zbj f h l=some (xs,g)):Same h g:=by
 unfold zbj at e
 split at e
 ·simp only[Option.some.injEq,Prod.mk.injEq]at e;obtain⟨_,rfl⟩:=e;exact .refl
 ·exact zCj hf _ _ _ _ e
theorem zyz:∀n h v x g,res n h v=some (x,g)→Same h g:=by
 intro n
 induction n with
 |zero=>
  intro h v x g e
  cases v<;>simp only[res,Option.some.injEq,Prod.mk.injEq,reduceCtorEq]at e
  obtain⟨_,rfl⟩:=e;exact .refl
 |succ n ih=>
  intro h v x g e
  cases v<;>simp only[res,Option.some.injEq,Prod.mk.injEq,reduceCtorEq]at e
  case d=>obtain⟨_,rfl⟩:=e;exact .refl
  case sl b off len=>
   split at e
   ·split at e
    ·obtain⟨⟨ds,h2⟩,e2,e3⟩:=zav e
     simp only[Prod.mk.injEq]at e3
     obtain⟨_,rfl⟩:=e3
     exact zoh.trans (ziP ih e2)
    ·cases e
   ·cases e
  all_goals
   obtain⟨⟨ds,h2⟩,e2,e3⟩:=zav e
   simp only[Prod.mk.injEq]at e3
   obtain⟨_,rfl⟩:=e3
   exact ziP ih e2
theorem zmm {app:App} {sh:FuncId→Bool} {f:Nat} {env r:Regs} {s:SOp} (ht:touch sh s=1∨touch sh s=7) {h g h':Heap} {v:V} (a:Same h g) (e:zae app sh f env r h s=some (v,h')):zae app sh f env r g s=some (v,g):=by
 have hl:∀n x,zdg g n x=zdg h n x:=by
  intro n x
  cases x<;>try rfl
  rename_i b i off
  simp only[zdg]
  rcases a b with e|⟨z,l,f,f',e1,e2⟩
  ·rw[e]
  ·rw[e1,e2]
 have hi:∀n x k,zbD g n x k=zbD h n x k:=by
  intro n x k
  cases x with
  |sl b i off=>
   simp only[zbD]
   rcases a b with e|⟨z,l,f,f',e1,e2⟩
   ·rw[e]
   ·rw[e1,e2]
  |d x=>cases x<;>rfl
  |_=>rfl
 have hs:∀n x lo hi mx,zbo g n x lo hi mx=zbo h n x lo hi mx:=by
  intro n x lo hi mx
  cases x with
  |sl b i off=>
   cases mx with
   |none=>
    simp only[zbo]
    rcases a b with e|⟨z,l,f,f',e1,e2⟩
    ·rw[e]
    ·rw[e1,e2]
   |some m=>rfl
  |d x=>cases x<;>cases mx<;>rfl
  |_=>rfl
 cases s with
 |load n x=>
  simp only[zae]at e⊢
  obtain⟨z,e1,e2,_⟩:=zbv e
  rw[hl,e1,e2];rfl
 |iaddr n x i=>
  simp only[zae]at e⊢
  obtain⟨k,e0,e⟩:=zap e
  obtain⟨z,e1,e2,_⟩:=zbv e
  rw[e0,Option.bind_some,hi,e1,e2];rfl
 |slice n x lo hi mx=>
  simp only[zae]at e⊢
  obtain⟨k1,e01,e⟩:=zap e
  obtain⟨k2,e02,e⟩:=zap e
  obtain⟨k3,e03,e⟩:=zap e
  obtain⟨z,e1,e2,_⟩:=zbv e
  rw[e01,Option.bind_some,e02,Option.bind_some,e03,Option.bind_some,hs,e1,e2];rfl
 |call f a=>simp only[touch]at ht;split at ht<;>simp at ht
 |len k x=>cases k<;>simp[touch]at ht
 |_=>simp[touch]at ht
theorem zmn {app:App} {sh:FuncId→Bool} {f:Nat} {env r:Regs} {s:SOp} (ht:touch sh s=4) {h h':Heap} {v:V} (e:zae app sh f env r h s=some (v,h')):Same h h':=by
 cases s with
 |call f a=>
  simp only[touch]at ht
  split at ht
  ·simp at ht
  rename_i hf
  simp only[zae]at e
  rw[if_neg hf]at e
  obtain⟨⟨ds,h1⟩,e0,e⟩:=zap e
  obtain⟨⟨w,h2⟩,e1,e⟩:=zap e
  obtain⟨z,_,_,rfl⟩:=zbv e
  exact ziP (zyz 8) e0
 |len k x=>cases k<;>simp[touch]at ht
 |_=>simp[touch]at ht
theorem zyA {app:App} {sh:FuncId→Bool} {base:Nat} {b:Array Nat} {sops:List (SOp×Option (Nat×Bool))} {ps:List (Nat×Nat)} {env r:Regs} (hp:zks sh b sops=some ps) (hok:∀p∈ps,zbg base sops env r [p]=true) {i j:Nat} (hij:i<j)
 (hb:(b.getD j 0).testBit i=false):zyw (Stp app sh base sops env r) i j:=by
 intro h h1 h2 st1 st2
 cases hi:sops[i]? with
 |none=>
  simp only[Stp,hi]at st1;subst st1
  exact⟨h2,st2,by simp only[Stp,hi]⟩
 |some x=>
  obtain⟨s1,g1⟩:=x
  cases hj:sops[j]? with
  |none=>
   simp only[Stp,hj]at st2;subst st2
   exact⟨h,by simp only[Stp,hj],st1⟩
  |some y=>
   obtain⟨s2,g2⟩:=y
   have st1':=st1
   have st2':=st2
   simp only[Stp,hi]at st1
   simp only[Stp,hj]at st2
   by_cases hw1:zaV env g1=true
   case neg=>
    rw[if_neg hw1]at st1
    obtain⟨k1,rfl⟩:=st1
    exact⟨h2,st2',by simp only[Stp,hi];rw[if_neg hw1];exact⟨k1,trivial⟩⟩
   by_cases hw2:zaV env g2=true
   case neg=>
    rw[if_neg hw2]at st2
    obtain⟨k2,rfl⟩:=st2
    exact⟨h,by simp only[Stp,hj];rw[if_neg hw2];exact⟨k2,trivial⟩,st1'⟩
   rw[if_pos hw1]at st1
   rw[if_pos hw2]at st2
   have fin:(∃k,zae app sh (base+j) env r h s2=some (env j,k)∧zae app sh (base+i) env r k s1=some (env i,h2))→∃h1',Stp app sh base sops env r j h h1'∧Stp app sh base sops env r i h1' h2:=by
    rintro⟨k,e1,e2⟩
    exact⟨k,by simp only[Stp,hj];rw[if_pos hw2];exact e1,by simp only[Stp,hi];rw[if_pos hw1];exact e2⟩
   refine fin ?_
   by_cases t1:touch sh s1=0
   ·obtain⟨rfl,c⟩:=zjW (zca (zBd t1)) st1
    exact⟨h2,st2,c h2⟩
   by_cases t2:touch sh s2=0
   ·obtain⟨rfl,c⟩:=zjW (zca (zBd t2)) st2
    exact⟨h,c h,st1⟩
   cases hse:(zdQ s1 s2&&g1.isNone&&g2.isNone)with
   |true=>
    simp only[Bool.and_eq_true]at hse
    exact zrt hse.1.1 st1 st2
   |false=>
    obtain⟨n1,n2,hc⟩:=zrr hp hi hj hij hb t1 t2 hse
    rcases hc with hc|⟨hc1,hc2⟩|⟨hc1,hc2⟩|⟨hc1,hc2⟩|⟨hc1,hc2⟩|⟨hc1,hc2⟩|⟨hc1,hc2⟩
    ·have:=hok _ hc
     have hne:(i==j)=false:=by simp;omega
     simp only[zbg,List.all_cons,List.all_nil,Bool.and_true,hne,hi,hj,hw1,hw2,Bool.not_true,Bool.false_or]at this
     simp only[Bool.false_eq_true,if_false]at this
     split at this
     ·rename_i x y hx hy
      exact zrs hx hy this n1 n2 st1 st2
     ·cases this
    ·have q1:=zda hc1 st1
     subst q1
     have q2:=zda hc2 st2
     subst q2
     exact⟨_,st2,st1⟩
    ·have bf:∀{s:SOp} {f:Nat},touch sh s=3→zdM sh env r f s=some [f]:=by
      intro s f ht
      cases s<;>first|rfl|(simp[touch]at ht;done)|skip
      ·rename_i f a;simp only[touch]at ht;split at ht<;>simp at ht
      ·rename_i k x;cases k<;>simp[touch]at ht
     exact zdT (zca (bf hc1)) (zca (bf hc2)) (by simp;omega) st1 st2
    ·have q2:=zda (.inr hc2) st2
     subst q2
     have hs:∃n a x,s1= .store n a x:=by
      cases s1<;>first|exact⟨_,_,_,rfl⟩|(simp[touch]at hc1;done)|skip
      ·rename_i f a;simp only[touch]at hc1;split at hc1<;>simp at hc1
      ·rename_i k x;cases k<;>simp[touch]at hc1
     obtain⟨n,a,x,rfl⟩:=hs
     exact⟨h,(ziO hc2 st1 _).1 st2,st1⟩
    ·have q1:=zda (.inr hc1) st1
     subst q1
     have hs:∃n a x,s2= .store n a x:=by
      cases s2<;>first|exact⟨_,_,_,rfl⟩|(simp[touch]at hc2;done)|skip
      ·rename_i f a;simp only[touch]at hc2;split at hc2<;>simp at hc2
      ·rename_i k x;cases k<;>simp[touch]at hc2
     obtain⟨n,a,x,rfl⟩:=hs
     exact⟨h2,st2,(ziO hc1 st2 _).2 st1⟩
    ·have q1:=zda hc1 st1
     subst q1
     exact⟨h2,st2,zmm hc1 (zmn hc2 st2) st1⟩
    ·have q2:=zda hc2 st2
     subst q2
     exact⟨h,zmm hc2 (zmn hc1 st1).symm st2,st1⟩
end Go.AI
namespace Go.AI
variable {P:Program} {sh:FuncId→Bool} {T:Tabs} {κ:Ctx T} {φ φ':Place} {H H':Heap} {w w' w'':World} {S S':Nat→Nat→Prop}
theorem ziQ {base:Nat} {ops:List (SOp×Option (Nat×Bool))} {env r:Regs} {ps:List (Nat×Nat)} (h:zbg base ops env r ps=true) {p:Nat×Nat} (hp:p∈ps):zbg base ops env r [p]=true:=by
 unfold zbg at h⊢
 rw[List.all_eq_true]at h
 rw[List.all_cons,h p hp,List.all_nil,Bool.and_true]
theorem zfy {base:Nat} {ops:List (SOp×Option (Nat×Bool))} {env r:Regs} {ps:List (Nat×Nat)} (h:zbg base ops env r (zeM ops++ps)=true) {i:Nat} {so:SOp} {j:Nat} {want:Bool} (hi:ops[i]? =some (so,some (j,want))):zbE (env j)=true:=by
 have hm:(j,j)∈zeM ops++ps:=by
  refine List.mem_append.2 (.inl (List.mem_map.2 ⟨j,?_,rfl⟩))
  rw[List.mem_eraseDups,List.mem_filterMap]
  exact⟨(so,some (j,want)),List.mem_of_getElem? hi,rfl⟩
 have:=ziQ h hm
 simpa[zbg]using this
theorem zyB {sops:List (SOp×Option (Nat×Bool))} (h:znv sops=true):zCg sops 0:=by
 intro i so g hi
 unfold znv at h
 rw[List.all_eq_true]at h
 have:=h ((so,g),i) (zcW hi)
 simp only[Bool.and_eq_true,List.all_eq_true]at this
 obtain⟨a1,a2⟩:=this
 refine⟨fun j hj=> ?_,fun j t hg=> ?_⟩
 ·have:=a1 _ hj
  simpa using this
 ·subst hg;simpa using a2
theorem zyC {ops:Array Oper} (hd:∀i j d,dstOf ops i=some d→dstOf ops j=some d→i=j) {l m:List Nat} (hm:∀k,k∈l↔k∈m) (t:Nat):cur ops l t=cur ops m t:=by
 cases h:cur ops l t with
 |some k=>
  obtain⟨h1,h2⟩:=zdF h
  cases h':cur ops m t with
  |some k'=>rw[hd k k' t h2 (zdF h').2]
  |none=>
   unfold cur at h'
   rw[List.find?_eq_none]at h'
   have:=h' k ((hm k).1 h1)
   rw[h2]at this;simp at this
 |none=>
  refine(zpw fun k hk hkt=> ?_).symm
  unfold cur at h
  rw[List.find?_eq_none]at h
  have:=h k ((hm k).2 hk)
  rw[hkt]at this;simp at this
theorem zuw {ro:Option Nat} {app:App} (happ:zjv T P sh app) {U:Nat→Bool} {nt:Nat} {inR:Bool} {id:Nat} {ops:Array Oper} {draw:Bool} {c:C} (hp:zcx P U nt sh inR (.region id ops draw)=some c)
 {n:Nat} {st st':St} {e:Ex} (hx:zbn app sh n c st=some (e,st')) {a:Act} (s:Sim P sh κ φ st.h w) (hr:RR φ w (stab κ φ st.h) U nt st.r a.tmps) {Q:Exit→Act→World→Prop}
 (hQ:∀a' w' φ',e= .normal→Sim P sh κ φ' st'.h w'→Ext κ φ st.h w φ' st'.h w'→RR φ' w' (stab κ φ' st'.h) U nt st'.r a'.tmps→a'.defers=a.defers→(∀b,b<st.h.next→φ b= .unborn→φ' b= .unborn)→Q .normal a' w'):
 (Code.region id ops draw).wpIn (zro ro) 0 P Q a w:=by
 simp only[zcx]at hp
 obtain⟨⟨sops,wf⟩,hpo,hp⟩:=zap hp
 dsimp only at hp
 split at hp
 ·cases hp
 rename_i hlo
 simp only[Bool.not_eq_true',Bool.not_eq_false]at hlo
 obtain⟨p1,p2,_⟩:=zeS _ _ _ _ _ hpo
 have hlen:sops.length=ops.size:=by rw[p1,Array.length_toList]
 have main:∀ps,c= .region sops (zcU U wf) (zeM sops++ps)→∃env h',e= .normal∧st'={r:=zdP env (zcU U wf) st.r,h:=h'}∧zbg st.h.next sops env st.r (zeM sops++ps)=true∧zmg (Stp app sh st.h.next sops env st.r) (List.range ops.size) (st.h.bump sops.length) h':=by
  intro ps hc
  subst hc
  simp only[zbn]at hx
  obtain⟨⟨env,h'⟩,h1,h2⟩:=zap hx
  dsimp only at h2
  split at h2
  case isFalse=>cases h2
  rename_i hpk
  simp only[Option.some.injEq,Prod.mk.injEq]at h2
  obtain⟨rfl,rfl⟩:=h2
  obtain⟨_,hch⟩:=zen (all:=sops) sops 0 zcO env (st.h.bump sops.length) h' (by simp) (zyB hlo) h1
  refine⟨env,h',rfl,rfl,hpk,?_⟩
  rw[List.range_eq_range',←hlen];exact hch
 have fin:∀env h' (l:List Nat),e= .normal→st'={r:=zdP env (zcU U wf) st.r,h:=h'}→(∀k,k∈l→k<ops.size)→(∀t,t<nt→wf.lookup t=cur ops (l.reverse++[]) t)→∀(w0:World),Ext κ φ st.h w φ (st.h.bump sops.length) w0→
  ∀a' w' φ',Sim P sh κ φ' h' w'→Ext κ φ (st.h.bump sops.length) w0 φ' h' w'→RSt φ' w' (stab κ φ' h') U nt ops env st.r (l.reverse++[]) a'.tmps→a'.defers=a.defers→(∀b,b<(st.h.bump sops.length).next→φ b= .unborn→(∀i∈l,b≠st.h.next+i)→φ' b= .unborn)→Q .normal a' w':=by
  intro env h' l he hst hl hw w0 e0 a' w' φ' s1 e1 r1 d1 u1
  subst hst
  refine hQ a' w' φ' he s1 (e0.trans e1) (r1.outs hw) d1 fun b hb hu=> ?_
  refine u1 b ?_ hu fun i _=>by omega
  show b<st.h.next+sops.length
  omega
 have unb:∀l:List Nat,(∀k,k∈l→k<ops.size)→∀i∈l,φ (st.h.next+i)= .unborn∧st.h.next+i<(st.h.bump sops.length).next:=fun l hl i hi=>by
  have:=hl i hi
  exact⟨s.next _ (by omega),by show _<st.h.next+sops.length;omega⟩
 cases draw with
 |false=>
  simp only[Bool.false_eq_true,if_false,Option.some.injEq]at hp
  obtain⟨env,h',he,hst,hpk,hch⟩:=main [] (by rw[←hp,List.append_nil])
  refine wpIn_region ?_
  obtain⟨s0,e0⟩:=zkz s sops.length
  have hmem:∀k,k∈List.range ops.size→k<ops.size:=fun k hk=>List.mem_range.1 hk
  refine zhZ happ (fun i so j want hi=>zfy hpk hi) (List.range ops.size) [] φ _ h' a w (zuu hpo) List.nodup_range s0 (hr.start (ops:=ops) (env:=env)|>.ext e0) (unb _ hmem) hch ?_
  exact fin env h' _ he hst hmem (fun t ht=>by
   rw[p2,List.append_nil]
   have:=zeC (ops:=ops) ops.size (Nat.le_refl _) t
   rw[←this,←Array.length_toList,List.take_length]) w e0
 |true=>
  simp only[if_true]at hp
  split at hp
  case isFalse=>cases hp
  rename_i hdk
  simp only[Bool.and_eq_true]at hdk
  obtain⟨hdk,hfo⟩:=hdk
  obtain⟨ps,hps,hp⟩:=zav hp
  obtain⟨env,h',he,hst,hpk,hch⟩:=main ps hp.symm
  obtain⟨d1,d2,_⟩:=zmj hdk
  refine wpIn_region_draw fun t=> ?_
  obtain⟨l,hl,hperm,hafter⟩:=znY d2 t
  rw[hfo,hl]
  have hdr:Drew w {w with drawn:=w.drawn+1}:=⟨rfl,rfl,rfl,rfl⟩
  obtain⟨s0,e0⟩:=zeP s hdr
  obtain⟨s1,e1⟩:=zkz s0 sops.length
  have hmem:∀k,k∈l→k<ops.size:=fun k hk=>List.mem_range.1 (hperm.subset hk)
  have hnd:l.Nodup:=hperm.symm.nodup List.nodup_range
  have hsw:∀i j,i<j→((Region.before ops).getD j 0).testBit i=false→zyw (Stp app sh st.h.next sops env st.r) i j:=fun i j hij hb=>
   zyA hps (fun p hpm=>ziQ hpk (List.mem_append.2 (.inr hpm))) hij hb
  have hord:l.Pairwise (fun a b=>b<a→((Region.before ops).getD a 0).testBit b=false):=by
   rw[List.pairwise_iff_getElem]
   intro i j hi hj hij _
   cases hb:((Region.before ops).getD l[i] 0).testBit l[j]with
   |false=>rfl
   |true=>
    have hsp:l=l.take i++l[i]::l.drop (i+1):=by rw[List.getElem_cons_drop,List.take_append_drop]
    have hin:=ahead hafter (l[i]+1) l[i] (Nat.lt_succ_self _) l[j] _ _ hsp hb
    obtain⟨k,hk,hkj⟩:=List.mem_take_iff_getElem.1 hin
    have hkl:k<j:=by omega
    exact absurd hkj (List.pairwise_iff_getElem.1 hnd k j (by omega) hj hkl)
  have hch':=zjS (C:=fun b a=>((Region.before ops).getD a 0).testBit b=false) hsw l (List.range ops.size) hperm List.pairwise_lt_range hord hch
  refine zhZ happ (fun i so j want hi=>zfy hpk hi) l [] φ _ h' a _ (zrq hpo hdk hperm hafter) hnd s1 (hr.start (ops:=ops) (env:=env)|>.ext (e0.trans e1)) (unb _ hmem) hch' ?_
  exact fin env h' _ he hst hmem (fun t ht=>by
   rw[p2,List.append_nil]
   have:=zeC (ops:=ops) ops.size (Nat.le_refl _) t
   rw[←Array.length_toList,List.take_length]at this
   rw[this]
   exact zyC d1 (fun k=>by rw[List.mem_reverse,List.mem_reverse,hperm.mem_iff,Array.length_toList]) t) _ (e0.trans e1)
end Go.AI
namespace Go.AI
variable {P:Program} {sh:FuncId→Bool} {T:Tabs} {κ:Ctx T} {φ φ':Place} {H H':Heap} {w w' w'':World} {S S':Nat→Nat→Prop}
def Ex.out:Ex→Exit
 | .normal=> .normal| .exit id=> .exit id| .ret=> .ret
def Marks (lo:Nat) (φ:Place) (ds:List Deferred) (w:World):Prop:=
 ∃bs:List Nat,ds=bs.map (fun b=>{target:= .collected b,args:= #[]})∧bs.Nodup∧∀b∈bs,lo≤b∧w.heap[b]? =some (.deferred (some []))∧∀b' sz,φ b'≠.at b sz
theorem zeD {m:Nat} {o:Obj} (h:w.heap[m]? =some o):m<w.heap.size:=by
 rcases Nat.lt_or_ge m w.heap.size with h1|h1
 ·exact h1
 ·rw[Array.getElem?_eq_none h1]at h;cases h
theorem Marks.ext (e:Ext κ φ H w φ' H' w') {lo:Nat} {ds:List Deferred} (h:Marks lo φ ds w):Marks lo φ' ds w':=by
 obtain⟨bs,h1,h2,h3⟩:=h
 refine⟨bs,h1,h2,fun b hb=> ?_⟩
 obtain⟨a1,a2,a3⟩:=h3 b hb
 obtain⟨b1,b2⟩:=e.frame b (zeD a2) a3
 exact⟨a1,b1.trans a2,b2⟩
theorem Marks.nil {lo:Nat}:Marks lo φ [] w:=⟨[],rfl,List.nodup_nil,fun b hb=>by cases hb⟩
theorem Marks.cons {lo b:Nat} {ds:List Deferred} (h:Marks lo φ ds w) (hn:w.heap.size≤b) (hlo:lo≤b) (hk:∀k,k<w.heap.size→w'.heap[k]? =w.heap[k]?) (hb:w'.heap[b]? =some (.deferred (some []))) (hu:∀b' sz,φ b'≠.at b sz):Marks lo φ ([{target:= .collected b,args:= #[]}]++ds) w':=by
 obtain⟨bs,h1,h2,h3⟩:=h
 refine⟨b::bs,by rw[h1];rfl,List.nodup_cons.2 ⟨fun hm=> ?_,h2⟩,fun c hc=> ?_⟩
 ·have:=zeD (h3 b hm).2.1;omega
 ·rcases List.mem_cons.1 hc with rfl|hc
  ·exact⟨hlo,hb,hu⟩
  ·obtain⟨a1,a2,a3⟩:=h3 c hc
   exact⟨a1,(hk c (zeD a2)).trans a2,a3⟩
def After (P:Program) (sh:FuncId→Bool) (U:Nat→Bool) (nt lo:Nat) (κ:Ctx T) (φ:Place) (H:Heap) (w:World) (st':St) (R:Act→World→Prop):Prop:=
 ∀a' w' φ',Sim P sh κ φ' st'.h w'→Ext κ φ H w φ' st'.h w'→RR φ' w' (stab κ φ' st'.h) U nt st'.r a'.tmps→Marks lo φ' a'.defers w'→(∀b,b<H.next→φ b= .unborn→φ' b= .unborn)→R a' w'
theorem After.trans {U:Nat→Bool} {nt lo:Nat} {st':St} {R:Act→World→Prop} (h:After P sh U nt lo κ φ H w st' R) (e:Ext κ φ H w φ' H' w') (hu:∀b,b<H.next→φ b= .unborn→φ' b= .unborn):After P sh U nt lo κ φ' H' w' st' R:=
 fun a2 w2 φ2 s2 e2 r2 m2 u2=>h a2 w2 φ2 s2 (e.trans e2) r2 m2 fun b hb hub=>u2 b (Nat.lt_of_lt_of_le hb e.next) (hu b hb hub)
def zpz (T:Tabs) (P:Program) (sh:FuncId→Bool) (U:Nat→Bool) (nt lo:Nat) (ro:Option Nat) (x:Code) (f:St→Option (Ex×St)):Prop:=
 ∀(κ:Ctx T) (φ:Place) (w:World) (st st':St) (e:Ex) (a:Act) (Q:Exit→Act→World→Prop),f st=some (e,st')→Sim P sh κ φ st.h w→RR φ w (stab κ φ st.h) U nt st.r a.tmps→Marks lo φ a.defers w→lo≤w.heap.size→
  After P sh U nt lo κ φ st.h w st' (Q e.out)→x.wpIn (zro ro) 0 P Q a w
theorem least {J:Nat→Prop} (h:∃k,J k):∃k,J k∧∀j,J j→k≤j:=by
 obtain⟨k,hk⟩:=h
 induction k using Nat.strongRecOn with
 |_ k ih=>
  by_cases hj:∃j,j<k∧J j
  ·obtain⟨j,h1,h2⟩:=hj;exact ih j h1 h2
  ·exact⟨k,hk,fun j hj'=>Nat.le_of_not_lt fun hlt=>hj ⟨j,hlt,hj'⟩⟩
theorem zCk {U:Nat→Bool} {nt lo:Nat} {ro:Option Nat} {x:Code} {f:St→Option (Ex×St)} (h:zpz T P sh U nt lo ro x f) (n:Nat):zpz T P sh U nt lo ro (.loop x) (iter f n):=by
 intro κ φ w st st' e a Q hx s hr hm hlo hQ
 let J:Act→World→Nat→Prop:=fun a w k=>∃φ st,iter f k st=some (e,st')∧Sim P sh κ φ st.h w∧RR φ w (stab κ φ st.h) U nt st.r a.tmps∧Marks lo φ a.defers w∧lo≤w.heap.size∧After P sh U nt lo κ φ st.h w st' (Q e.out)
 let μ:Act→World→Nat:=fun a w=>Classical.epsilon fun k=>J a w k∧∀j,J a w j→k≤j
 have hμ:∀a w,(∃k,J a w k)→J a w (μ a w)∧∀j,J a w j→μ a w≤j:=fun a w hk=>Classical.epsilon_spec (p:=fun k=>J a w k∧∀j,J a w j→k≤j) (least hk)
 refine wpIn_loop (fun a w=>∃k,J a w k) μ ⟨n,φ,st,hx,s,hr,hm,hlo,hQ⟩ fun a w hI=> ?_
 obtain⟨hJ,_⟩:=hμ a w hI
 obtain⟨φ,st,hx,s,hr,hm,hlo,hQ⟩:=hJ
 cases hm':μ a w with
 |zero=>rw[hm']at hx;simp[iter]at hx
 |succ k=>
  rw[hm']at hx
  simp only[iter]at hx
  cases hf:f st with
  |none=>rw[hf]at hx;cases hx
  |some p=>
   obtain⟨ex,st1⟩:=p
   rw[hf]at hx
   refine h κ φ w st st1 ex a _ hf s hr hm hlo fun a1 w1 φ1 s1 e1 r1 m1 u1=> ?_
   cases ex with
   |normal=>
    have hJ1:J a1 w1 k:=⟨φ1,st1,hx,s1,r1,m1,Nat.le_trans hlo e1.size,hQ.trans e1 u1⟩
    exact⟨⟨k,hJ1⟩,Nat.lt_succ_of_le ((hμ a1 w1 ⟨k,hJ1⟩).2 k hJ1)⟩
   |exit id=>
    simp only[Option.some.injEq,Prod.mk.injEq]at hx
    obtain⟨rfl,rfl⟩:=hx
    exact hQ a1 w1 φ1 s1 e1 r1 m1 u1
   |ret=>
    simp only[Option.some.injEq,Prod.mk.injEq]at hx
    obtain⟨rfl,rfl⟩:=hx
    exact hQ a1 w1 φ1 s1 e1 r1 m1 u1
theorem zkJ (s:Sim P sh κ φ H w) {b m sz:Nat} (hφ:φ b= .at m sz) {L L':LoopB} (hL:H.get b=some (.loop L)) {r r':Loop} (hw:w.heap[m]? =some (.loop r))
 (hb:Ext κ φ H w φ (H.put b (.loop L')) (w.putObj m (.loop r'))→RB P sh φ (w.putObj m (.loop r')) (stab κ φ (H.put b (.loop L'))) m sz (.loop L')):
 Sim P sh κ φ (H.put b (.loop L')) (w.putObj m (.loop r'))∧Ext κ φ H w φ (H.put b (.loop L')) (w.putObj m (.loop r')):=by
 have hlt:=zeD hw
 have hu:Upd w m (.loop r') (w.putObj m (.loop r')):=⟨World.putObj_size,World.putObj_heap_same hlt,fun k hk=>World.putObj_heap_other hk,rfl,rfl,rfl⟩
 have hno:∀k,¬stab κ φ H m k:=fun k hk=>by
  obtain⟨l,fz,h1,_⟩:=hk.2 b sz hφ
  rw[hL]at h1;cases h1
 refine ziH s hφ hu (fun k hk=>absurd hk (hno k)) (fun k v hk=>absurd hk (hno k)) ?_ hb
 have h1:w.shape? m=none:=by simp[World.shape?,hw]
 have h2:(w.putObj m (.loop r')).shape? m=none:=by simp[World.shape?,World.putObj_heap_same hlt]
 rw[h1,h2]
section
variable {U:Nat→Bool} {nt lo:Nat} {ro:Option Nat} {app:App} {n:Nat}
theorem zpA {a:Act} {r:Regs} (hr:RR φ w S U nt r a.tmps) {x:Operand} {y:Opd} (hp:zbq U nt [] x=some y):Rel φ w S (opd zcO r y) (a.eval x):=by
 have ho:zbr (fun _=>True) U nt [] zcO r a.eval φ w S:=by
  have:=RSt.opds (ops:= #[]) (env:=zcO) (done:=[]) (hr.start) (so:= .move y) (wr:=[]) (fun t k hl=>by cases hl) (fun t _ _=>rfl)
  intro x' y' hp' _
  have h2:=RSt.opds (ops:= #[]) (env:=zcO) (done:=[]) (hr.start) (so:= .move y') (wr:=[]) (fun t k hl=>by cases hl) (fun t _ _=>rfl)
  exact h2 x' y' hp' (by simp[SOp.opds])
 exact ho x y hp trivial
theorem zmo (happ:zjv T P sh app) {inR:Bool} (hro:inR=false→ro=none) {g:Operand} {ps:Array Tmp} {assign body:Code} {c:C} (hp:zcx P U nt sh inR (.rangeFunc g ps assign body)=some c):
 zpz T P sh U nt lo ro (.rangeFunc g ps assign body) (zbn app sh n c):=by
 intro κ φ w st st' e a Q hx s hr hm hlo hQ
 simp only[zcx]at hp
 obtain⟨f,hf,hp⟩:=zap hp
 split at hp
 case isFalse=>cases hp
 rename_i hin
 simp only[Bool.and_eq_true,Bool.not_eq_true',List.all_eq_true,decide_eq_true_eq]at hin
 obtain⟨hin,hps⟩:=hin
 obtain⟨as,has,hp⟩:=zap hp
 obtain⟨bd,hbd,rfl⟩:=zav hp
 have hrn:=hro hin
 subst hrn
 simp only[zbn]at hx
 split at hx
 ·cases hx
 rename_i hfn
 obtain⟨⟨v,H1⟩,happ1,hx⟩:=zap hx
 dsimp only at hx
 refine wpIn_rangeFunc fun fn _=> ?_
 let wa:=w.alloc (.deferred (some []))
 let rec0:Loop:={state:= .ready,pending:=none,fn,tmps:=a.tmps,params:=ps,assign,body,defers:=w.heap.size}
 have hsa:wa.heap.size=w.heap.size+1:=by simp[wa]
 have hka:∀k,k<w.heap.size→wa.heap[k]? =w.heap[k]? :=fun k hk=>by
  show(w.heap.push _)[k]? =_
  rw[Array.getElem?_push,if_neg (by omega)]
 obtain⟨sa,ea⟩:=zkH (w':=wa) s hka (by rw[hsa];omega) rfl rfl rfl
 obtain⟨sb,eb⟩:=zkz sa 1
 have hun:φ st.h.next= .unborn:=s.next _ (Nat.le_refl _)
 obtain⟨sc,ec⟩:=ziI (sz:=0) (x:= .loop {regs:=st.r,params:=ps.toList,assign:=as,body:=bd,state:= .ready,pending:=none}) (o:= .loop rec0) sb hun (by show st.h.next<st.h.next+1;omega) (fun e1 h1=>
  ⟨rec0,U,nt,h1,trivial,trivial,rfl,has,hbd,hps,e1.rr (eb.rr (ea.rr hr))⟩)
 have ebc:=(ea.trans eb).trans ec
 let w1:=wa.alloc (.loop rec0)
 have hw1:({wa with heap:=wa.heap.push (.loop rec0)}:World)=w1:=rfl
 rw[hw1]at sc ec ebc
 have hrel:=ebc.rv (zpA hr hf)
 have hyl:Rel (φ.set st.h.next (.at wa.heap.size 0)) w1 (stab κ (φ.set st.h.next (.at wa.heap.size 0)) ((st.h.bump 1).put st.h.next (.loop {regs:=st.r,params:=ps.toList,assign:=as,body:=bd,state:= .ready,pending:=none}))) (.yld st.h.next) (.func (.yield wa.heap.size) #[] #[]):=
  .yld (.inr ⟨0,zaS _ _ _⟩)
 have hd:=happ κ _ _ w1 _ _ v H1 _ _ sc hrel (.cons hyl .nil) happ1
 cases hd with
 |yld l r h hl hs hc=>
  exfalso
  revert hfn hrel
  rw[h]
  generalize opd zcO st.r f=fv
  intro hfn hrel
  cases fv with
  |d x=>
   have:=hrel.d_inv
   cases this
  |clo f a b=>cases hrel
  |_=>simp[V.isFn]at hfn
 |fn f' first cap fn' hv hf' hname hb hc=>
  have hne:fn'.name≠ "runtime.NumGoroutine" :=by simpa using hname
  have hbn':fn'.body≠none:=fun hbb=>by rw[hbb]at hb;cases hb
  refine⟨w.heap.size+1,[{target:= .collected w.heap.size,args:= #[]}],w1,{target:= .fn (.func f') cap,args:=first++ #[.func (.yield wa.heap.size) #[] #[]]},w1,f',first++ #[.func (.yield wa.heap.size) #[] #[]]++cap,w1,run_enterLoop_outer fn a.tmps ps assign body,?_,fun _ _=>trivial,?_,fun h=>(by cases h),?_⟩
  ·simp only[resolve,rangeCall,hv,Deferred.ofValue,Sem.run_pure]
   rw[hsa];simp[Act.eval]
  ·simp[invoke,callFunc,hf',hne,hbn']
  ·refine CallsIn.mono (zgd.2 (by simpa using hc)) fun e1 w2 hp2=> ?_
   cases e1 with
   |panicked ch=>exact hp2.elim
   |outgrown=>exact hp2.elim
   |returned mv=>
    obtain⟨φ2,s2,e2,r2,u2⟩:=hp2
    have hblt:st.h.next<((st.h.bump 1).put st.h.next (.loop {regs:=st.r,params:=ps.toList,assign:=as,body:=bd,state:= .ready,pending:=none})).next:=by show st.h.next<st.h.next+1;omega
    cases hgb:H1.get st.h.next with
    |none=>have hx':=hx;rw[hgb]at hx';cases hx'
    |some blk=>
     have hx':=hx
     rw[hgb]at hx'
     cases blk with
     |loop L=>
      dsimp only at hx'
      split at hx'
      ·cases hx'
      rename_i hbusy
      obtain⟨m,sz,hφ2,hrb⟩:=s2.get hgb
      have hm:m=wa.heap.size:=by
       rcases e2.loc st.h.next (by rw[zaS];simp)with h|h
       ·rw[hφ2,zaS]at h;cases h;rfl
       ·rw[hφ2]at h;cases h
      subst hm
      obtain⟨r,U',nt',g1,g2,g3,g4,g5,g6,g7,g8⟩:=hrb
      have hrb':r.state≠.busy:=fun h=>by
       rw[h]at g2
       revert g2 hbusy
       cases L.state<;>simp[LSt.is]
      have hend:=run_endLoop (P:=P) g1 hrb'
      obtain⟨s3,e3⟩:=zkJ (L':={L with state:= .exhausted}) (r':={r with state:= .exhausted}) s2 hφ2 hgb g1 (fun e1=>
       ⟨{r with state:= .exhausted},U',nt',World.putObj_heap_same (zeD g1),trivial,g3,g4,g5,g6,g7,e1.rr g8⟩)
      have eall:=(ebc.trans e2).trans e3
      have hmk:Marks lo φ2 ([{target:= .collected w.heap.size,args:= #[]}]++a.defers) (w2.putObj wa.heap.size (.loop {r with state:= .exhausted})):=by
       have h1:Marks lo φ ([{target:= .collected w.heap.size,args:= #[]}]++a.defers) wa:=hm.cons (Nat.le_refl _) hlo hka (World.alloc_heap_new w _) (fun b' sz hb'=>by
        have:=s.lt hb';omega)
       exact((h1.ext eb).ext ec|>.ext e2).ext e3
      have hub:∀b,b<st.h.next→φ b= .unborn→φ2 b= .unborn:=fun b hb hu=>u2 b (by show b<st.h.next+1;omega) (by rw[zaM _ _ (by omega)];exact hu)
      refine⟨r.pending,_,by rw[←hsa];exact hend,?_⟩
      simp only[Option.some.injEq]at hx'
      generalize hX:({r:=st.r,h:=H1.put st.h.next (.loop {L with state:= .exhausted})}:St)=X at hx'
      have hfin:∀a',a'=({a with defers:=[{target:= .collected w.heap.size,args:= #[]}]++a.defers}:Act)→X=st'→Q e.out a' (w2.putObj wa.heap.size (.loop {r with state:= .exhausted})):=fun a' ha' hXs=>by
       subst hXs;subst hX;subst ha'
       exact hQ _ _ φ2 s3 eall (eall.rr hr) hmk hub
      cases hpd:L.pending with
      |none=>
       rw[hpd]at hx' g3
       simp only[Prod.mk.injEq]at hx'
       obtain⟨rfl,rfl⟩:=hx'
       cases hrp:r.pending with
       |some cd=>rw[hrp]at g3;exact g3.elim
       |none=>
        have:=hfin _ rfl rfl
        rw[hrp]at this
        exact this
      |some j=>
       rw[hpd]at hx' g3
       simp only[Prod.mk.injEq]at hx'
       obtain⟨rfl,rfl⟩:=hx'
       cases hrp:r.pending with
       |none=>rw[hrp]at g3;cases j<;>exact g3.elim
       |some cd=>
        rw[hrp]at g3
        have:=hfin _ rfl rfl
        rw[hrp]at this
        cases j with
        |ret=>
         cases cd<;>first|exact g3.elim|skip
         exact wpIn_ret this
        |exit i=>
         cases cd<;>first|exact g3.elim|skip
         have hi:i=_:=g3
         subst hi
         exact wpIn_exit this
     |_=>cases hx'
theorem zeo (happ:zjv T P sh app) {inR:Bool} (hro:inR=false→ro=none):∀(x:Code) (c:C),zcx P U nt sh inR x=some c→zpz T P sh U nt lo ro x (zbn app sh n c)
 | .skip,c,hp=>fun κ φ w st st' e a Q hx s hr hm hlo hQ=>by
  simp only[zcx,Option.some.injEq]at hp;subst hp
  simp only[zbn,Option.some.injEq,Prod.mk.injEq]at hx
  obtain⟨rfl,rfl⟩:=hx
  exact wpIn_skip (hQ a w φ s .refl hr hm fun _ _ h=>h)
 | .region id ops draw,c,hp=>fun κ φ w st st' e a Q hx s hr hm hlo hQ=>by
  refine zuw happ hp hx s hr fun a' w' φ' he s1 e1 r1 d1 u1=> ?_
  subst he
  exact hQ a' w' φ' s1 e1 r1 (by rw[d1];exact hm.ext e1) u1
 | .seq x y,c,hp=>fun κ φ w st st' e a Q hx s hr hm hlo hQ=>by
  simp only[zcx]at hp
  obtain⟨c1,h1,hp⟩:=zap hp
  obtain⟨c2,h2,rfl⟩:=zav hp
  simp only[zbn]at hx
  cases hf:zbn app sh n c1 st with
  |none=>rw[hf]at hx;cases hx
  |some p=>
   obtain⟨ex,st1⟩:=p
   rw[hf]at hx
   refine wpIn_seq (zeo happ hro x c1 h1 κ φ w st st1 ex a _ hf s hr hm hlo fun a1 w1 φ1 s1 e1 r1 m1 u1=> ?_)
   cases ex with
   |normal=>exact zeo happ hro y c2 h2 κ φ1 w1 st1 st' e a1 Q hx s1 r1 m1 (Nat.le_trans hlo e1.size) (hQ.trans e1 u1)
   |exit id=>
    simp only[Option.some.injEq,Prod.mk.injEq]at hx
    obtain⟨rfl,rfl⟩:=hx
    exact hQ a1 w1 φ1 s1 e1 r1 m1 u1
   |ret=>
    simp only[Option.some.injEq,Prod.mk.injEq]at hx
    obtain⟨rfl,rfl⟩:=hx
    exact hQ a1 w1 φ1 s1 e1 r1 m1 u1
 | .cond x y z,c,hp=>fun κ φ w st st' e a Q hx s hr hm hlo hQ=>by
  simp only[zcx]at hp
  obtain⟨c0,h0,hp⟩:=zap hp
  obtain⟨c1,h1,hp⟩:=zap hp
  obtain⟨c2,h2,rfl⟩:=zav hp
  simp only[zbn]at hx
  have hrel:=zpA hr h0
  split at hx
  ·rename_i hc
   rw[hc]at hrel
   have hev:=hrel.d_inv
   have:a.eval x= .bool true:=by revert hev;generalize a.eval x=mv;intro hev;cases hev;rfl
   exact wpIn_cond_true this (zeo happ hro y c1 h1 κ φ w st st' e a Q hx s hr hm hlo hQ)
  ·rename_i hc
   rw[hc]at hrel
   have hev:=hrel.d_inv
   have:a.eval x= .bool false:=by revert hev;generalize a.eval x=mv;intro hev;cases hev;rfl
   exact wpIn_cond_false this (zeo happ hro z c2 h2 κ φ w st st' e a Q hx s hr hm hlo hQ)
  ·cases hx
 | .block id x,c,hp=>fun κ φ w st st' e a Q hx s hr hm hlo hQ=>by
  simp only[zcx]at hp
  obtain⟨c1,h1,rfl⟩:=zav hp
  simp only[zbn]at hx
  cases hf:zbn app sh n c1 st with
  |none=>rw[hf]at hx;cases hx
  |some p=>
   obtain⟨ex,st1⟩:=p
   rw[hf]at hx
   refine wpIn_block (zeo happ hro x c1 h1 κ φ w st st1 ex a _ hf s hr hm hlo fun a1 w1 φ1 s1 e1 r1 m1 u1=> ?_)
   cases ex with
   |normal=>
    simp only[Option.some.injEq,Prod.mk.injEq]at hx
    obtain⟨rfl,rfl⟩:=hx
    exact hQ a1 w1 φ1 s1 e1 r1 m1 u1
   |ret=>
    simp only[Option.some.injEq,Prod.mk.injEq]at hx
    obtain⟨rfl,rfl⟩:=hx
    exact hQ a1 w1 φ1 s1 e1 r1 m1 u1
   |exit id'=>
    simp only[Ex.out,Exit.inBlock]
    by_cases hid:id'=id
    ·simp only[hid,if_true,Option.some.injEq,Prod.mk.injEq]at hx
     obtain⟨rfl,rfl⟩:=hx
     rw[if_pos hid]
     exact hQ a1 w1 φ1 s1 e1 r1 m1 u1
    ·simp only[hid,if_false,Option.some.injEq,Prod.mk.injEq]at hx
     obtain⟨rfl,rfl⟩:=hx
     rw[if_neg hid]
     exact hQ a1 w1 φ1 s1 e1 r1 m1 u1
 | .loop x,c,hp=>by
  simp only[zcx]at hp
  obtain⟨c1,h1,rfl⟩:=zav hp
  intro κ φ w st st' e a Q hx
  simp only[zbn]at hx
  exact zCk (zeo happ hro x c1 h1) n κ φ w st st' e a Q hx
 | .rangeFunc g ps x y,c,hp=>zmo happ hro hp
 | .exit id,c,hp=>fun κ φ w st st' e a Q hx s hr hm hlo hQ=>by
  simp only[zcx,Option.some.injEq]at hp;subst hp
  simp only[zbn,Option.some.injEq,Prod.mk.injEq]at hx
  obtain⟨rfl,rfl⟩:=hx
  exact wpIn_exit (hQ a w φ s .refl hr hm fun _ _ h=>h)
 | .ret,c,hp=>fun κ φ w st st' e a Q hx s hr hm hlo hQ=>by
  simp only[zcx,Option.some.injEq]at hp;subst hp
  simp only[zbn,Option.some.injEq,Prod.mk.injEq]at hx
  obtain⟨rfl,rfl⟩:=hx
  exact wpIn_ret (hQ a w φ s .refl hr hm fun _ _ h=>h)
 | .scope x,c,hp=>by simp[zcx]at hp
 | .label l,c,hp=>by simp[zcx]at hp
 | .goto l,c,hp=>by simp[zcx]at hp
 | .refuse y,c,hp=>by simp[zcx]at hp
end
end Go.AI
namespace Go.AI
variable {P:Program} {sh:FuncId→Bool} {T:Tabs} {κ:Ctx T} {φ φ':Place} {H H':Heap} {w w' w'':World} {S S':Nat→Nat→Prop}
def zru (tmps:Array Value):ResultVar→Sem Value
 | .tmp t=>pure (tmps.getD t undef)
 | .cell a t=>do loadVar t (←asAddr (tmps.getD a undef))
theorem zrv (fn:Func) (tmps:Array Value):results fn tmps=(do let vs←fn.results.mapM (zru tmps);pure (if h:vs.size=1 then vs[0]else .tuple vs)):=by
 unfold results
 have:(fun x:ResultVar=>match x with
  | .tmp t=>(pure (tmps.getD t undef):Sem Value)
  | .cell a t=>do loadVar t (←asAddr (tmps.getD a undef)))=zru tmps:=by
  funext x;cases x<;>rfl
 rw[←this];rfl
theorem zfK {U:Nat→Bool} {nt:Nat} {st:St} {tmps:Array Value} (s:Sim P sh κ φ st.h w) (hr:RR φ w (stab κ φ st.h) U nt st.r tmps):∀(rs:List ResultVar) (l:List RV),zfv P U nt rs=some l→∀vs,zaT st l=some vs→
 ∃ms,(rs.mapM (zru tmps)).run P w= .ok ms w∧Args φ w (stab κ φ st.h) vs ms
 |[],l,hp,vs,hv=>by
  simp only[zfv,Option.some.injEq]at hp;subst hp
  simp only[zaT,Option.some.injEq]at hv;subst hv
  exact⟨[],by simp,.nil⟩
 | .tmp t::rs,l,hp,vs,hv=>by
  simp only[zfv]at hp
  split at hp
  case isFalse=>cases hp
  rename_i hu
  simp only[Bool.and_eq_true,decide_eq_true_eq]at hu
  obtain⟨l',h1,rfl⟩:=zav hp
  simp only[zaT]at hv
  obtain⟨vs',h2,rfl⟩:=zav hv
  obtain⟨ms,h3,h4⟩:=zfK s hr rs l' h1 vs' h2
  refine⟨tmps.getD t undef::ms,?_,.cons (hr.2 t hu.1 hu.2) h4⟩
  simp only[List.mapM_cons,zru,Sem.run_bind,Sem.run_pure,Result.andThen_ok,h3]
 | .cell a t::rs,l,hp,vs,hv=>by
  simp only[zfv]at hp
  split at hp
  case isFalse=>cases hp
  rename_i hu
  simp only[Bool.and_eq_true,decide_eq_true_eq]at hu
  obtain⟨n,h0,hp⟩:=zap hp
  obtain⟨l',h1,rfl⟩:=zav hp
  simp only[zaT]at hv
  obtain⟨v,hv0,hv⟩:=zap hv
  obtain⟨vs',h2,rfl⟩:=zav hv
  obtain⟨ms,h3,h4⟩:=zfK s hr rs l' h1 vs' h2
  obtain⟨ad,mv,e1,e2,e3⟩:=ztU s hv0 (hr.2 a hu.1 hu.2) h0
  refine⟨mv::ms,?_,.cons e3 h4⟩
  simp only[List.mapM_cons,zru,Sem.run_bind,e1,asAddr,Sem.run_pure,Result.andThen_ok,e2,h3]
theorem zrw {U:Nat→Bool} {nt:Nat} {st:St} {tmps:Array Value} (s:Sim P sh κ φ st.h w) (hr:RR φ w (stab κ φ st.h) U nt st.r tmps) {fn:Func} {l:List RV} (hp:zfv P U nt fn.results.toList=some l) {vs:List V} (hv:zaT st l=some vs):
 ∃mv,(results fn tmps).run P w= .ok mv w∧Rel φ w (stab κ φ st.h) (oneOr vs) mv:=by
 obtain⟨ms,h1,h2⟩:=zfK s hr _ _ hp vs hv
 rw[zrv]
 have h3:(fn.results.mapM (zru tmps)).run P w= .ok ms.toArray w:=by
  rw[Array.mapM_eq_mapM_toList,Sem.run_map,h1];rfl
 simp only[Sem.run_bind,h3,Result.andThen_ok,Sem.run_pure]
 refine⟨_,rfl,?_⟩
 obtain⟨a1,a2⟩:=zhY h2
 cases h2 with
 |nil=>
  have hne:¬(([]:List Value)).toArray.size=1:=by simp
  rw[dif_neg hne]
  exact zei (cs:=[]) (vs:= #[]) rfl (fun j x v hx _=>by cases j<;>cases hx)
 |cons hr0 h2=>
  cases h2 with
  |nil=>exact hr0
  |cons hr1 h2=>
   rename_i x v x' v' l' m'
   have hne:¬(v::v'::m').toArray.size=1:=by simp
   rw[dif_neg hne]
   refine zei (by simpa using a1) fun j y u hy hu=> ?_
   have:=a2 j y hy
   have h5:(v::v'::m').getD j undef=u:=by
    have:(v::v'::m')[j]? =some u:=by simpa using hu
    rw[List.getD_eq_getElem?_getD,this];rfl
   rwa [h5]at this
theorem RB.keep (hl:∀b,φ b≠.unborn→φ' b=φ b∨φ' b= .dead) (hc:∀m o v,S m o→w.cell? ⟨m,o,none⟩=some v→S' m o∧w'.cell? ⟨m,o,none⟩=some v) (hs:∀m t k,w.shape? m=some (t,k)→w'.shape? m=some (t,k))
 {m sz:Nat} (hm:w'.heap[m]? =w.heap[m]?) {x:Blk} (h:RB P sh φ w S m sz x):RB P sh φ' w' S' m sz x:=by
 cases x with
 |els z l fz=>
  obtain⟨h0,h1,cs,t,h2,h3,h4⟩:=h
  exact⟨h0,h1,cs,t,hm.trans h2,h3,fun i e' he=>let⟨h5,h6⟩:=h4 i e' he;⟨h5,fun j x v hx hv=>(h6 j x v hx hv).mono hl hc hs⟩⟩
 |map es clock=>
  obtain⟨mes,h1,h2,h3,h4⟩:=h
  exact⟨mes,hm.trans h1,h2,fun i e' me h5 h6=>let⟨a,b,c,d⟩:=h3 i e' me h5 h6;⟨a.mono hc,b.mono hl hc hs,c,d⟩,h4⟩
 |it s pos=>obtain⟨s',h1,h2⟩:=h;exact⟨s',hm.trans h1,h2⟩
 |loop L=>
  obtain⟨r,U,nt,h1,h2,h3,h4,h5,h6,h7,h8⟩:=h
  exact⟨r,U,nt,hm.trans h1,h2,h3,h4,h5,h6,h7,h8.1,fun t hu ht=>(h8.2 t hu ht).mono hl hc hs⟩
theorem zyD (s:Sim P sh κ φ H w) {b:Nat} {ds:Option (List Deferred)} {o:Option (List Deferred)} (hb:w.heap[b]? =some (.deferred ds)) (hu:∀b' sz,φ b'≠.at b sz):
 Sim P sh κ φ H (w.putObj b (.deferred o))∧(∀m k v,w.cell? ⟨m,k,none⟩=some v→(w.putObj b (.deferred o)).cell? ⟨m,k,none⟩=some v)∧∀m t k,w.shape? m=some (t,k)→(w.putObj b (.deferred o)).shape? m=some (t,k):=by
 have hlt:=zeD hb
 have hother:∀m,m≠b→(w.putObj b (.deferred o)).heap[m]? =w.heap[m]? :=fun m hm=>World.putObj_heap_other hm
 have hc:∀m k v,w.cell? ⟨m,k,none⟩=some v→(w.putObj b (.deferred o)).cell? ⟨m,k,none⟩=some v:=fun m k v h=>by
  have hm:m≠b:=fun hm=>by subst hm;simp[World.cell?,hb]at h
  exact(cell_of (hother m hm)).trans h
 have hs:∀m t k,w.shape? m=some (t,k)→(w.putObj b (.deferred o)).shape? m=some (t,k):=fun m t k h=>by
  have hm:m≠b:=fun hm=>by subst hm;simp[World.shape?,hb]at h
  rw[zga (hother m hm)];exact h
 refine⟨⟨by rw[World.putObj_size];exact s.base,fun c m sz hφ=> ?_,s.live,s.next,s.inj,s.tab.mono fun m o v h h'=>⟨h,hc m o v h'⟩⟩,hc,hs⟩
 obtain⟨h1,x,h2,h3⟩:=s.blk c m sz hφ
 exact⟨h1,x,h2,h3.keep (fun _ _=> .inl rfl) (fun m o v h h'=>⟨h,hc m o v h'⟩) hs (hother m fun hm=>hu c sz (hm▸hφ))⟩
theorem zfL {U:Nat→Bool} {nt:Nat} {fn:Func} {l:List RV} (hp:zfv P U nt fn.results.toList=some l) {st:St} {vs:List V} (hv:zaT st l=some vs) {tmps:Array Value} {φ0:Place} {H0:Heap} {w0:World} (hub:∀b,b<H0.next→φ0 b= .unborn→φ b= .unborn):
 ∀(bs:List Nat) (w:World),Sim P sh κ φ st.h w→Ext κ φ0 H0 w0 φ st.h w→RR φ w (stab κ φ st.h) U nt st.r tmps→bs.Nodup→(∀b∈bs,w0.heap.size≤b∧w.heap[b]? =some (.deferred (some []))∧∀b' sz,φ b'≠.at b sz)→
  LeavesInM Fence.wide 0 P fn tmps (zem P sh κ φ0 H0 w0 (oneOr vs) st.h) (bs.map fun b=>{target:= .collected b,args:= #[]}) .returning w
 |[],w,s,e,hr,_,_=>by
  obtain⟨mv,h1,h2⟩:=zrw s hr hp hv
  exact⟨mv,h1,φ,s,e,h2,hub⟩
 |b::bs,w,s,e,hr,hn,hb=>by
  obtain⟨a1,a2,a3⟩:=hb b (by simp)
  have hn':=List.nodup_cons.1 hn
  obtain⟨s1,hc,hs⟩:=zyD (o:=none) s a2 a3
  have hother:∀m,m≠b→(w.putObj b (.deferred none)).heap[m]? =w.heap[m]? :=fun m hm=>World.putObj_heap_other hm
  refine⟨by simp,.inl ⟨b,_,rfl,run_takeDeferred a2,?_⟩⟩
  refine zfL hp hv hub bs _ s1 ?_ ?_ hn'.2 fun c hc=> ?_
  ·exact⟨e.loc,fun m o v h h'=>let⟨h1,h2⟩:=e.cell m o v h h';⟨h1,hc m o v h2⟩,fun m hm h=>let⟨h1,h2⟩:=e.frame m hm h;⟨(hother m (by omega)).trans h1,h2⟩,by rw[World.putObj_size];exact e.size,
    e.os,e.tape,e.output,fun m t k h=>hs m t k (e.shape m t k h),e.next⟩
  ·exact⟨hr.1,fun t hu ht=>(hr.2 t hu ht).mono (fun _ _=> .inl rfl) (fun m o v h h'=>⟨h,hc m o v h'⟩) hs⟩
  ·obtain⟨b1,b2,b3⟩:=hb c (by simp[hc])
   exact⟨b1,(hother c fun h=>hn'.1 (h▸hc)).trans b2,b3⟩
theorem lt_of_cell {w:World} {m o:Nat} {v:Value} (h:w.cell? ⟨m,o,none⟩=some v):m<w.heap.size:=by
 rcases Nat.lt_or_ge m w.heap.size with h1|h1
 ·exact h1
 ·simp[World.cell?,Array.getElem?_eq_none h1]at h
def PrimOk (T:Tabs) (P:Program) (f:FuncId) (p:List D→Option D):Prop:=
 ∃fn,P.funcs[f]? =some fn∧(fn.name== "runtime.NumGoroutine")=false∧fn.body.isSome=true∧∀(w:World) (S:Nat→Nat→Prop) (ds:List D) (margs:List Value) (x:D),Met T S w→margs.length=ds.length→(∀(j:Nat) y,ds[j]? =some y→RD w S y (margs.getD j undef))→
  (∀m o,S m o→m<w.heap.size)→p ds=some x→CallsIn Fence.wide 0 P f margs.toArray w fun e w'=>match e with
   | .returned mv=>(∀m,m<w.heap.size→w'.heap[m]? =w.heap[m]?)∧w.heap.size≤w'.heap.size∧w'.os=w.os∧w'.tape=w.tape∧w'.output=w.output∧RD w' (fun m o=>S m o∨(w.heap.size≤m∧m<w'.heap.size)) x mv
   |_=>False
structure Linked (T:Tabs) (A:AProg) (P:Program):Prop where
 fn:∀f a,A.prim f=none→A.fns f=some a→∃fn,P.funcs[f]? =some fn∧prepF P A.sh fn=some a∧(fn.name== "runtime.NumGoroutine")=false
 prim:∀f p,A.prim f=some p→PrimOk T P f p
theorem zrx {fn:Func} {a:AFn} (h:prepF P sh fn=some a):∃U c body,fn.body=some body∧zcx P U fn.ntmps sh false body=some c∧zfv P U fn.ntmps fn.results.toList=some a.results∧a.body=c:=by
 unfold prepF at h
 obtain⟨a0,_,h⟩:=zap h
 dsimp only at h
 unfold zkt at h
 obtain⟨body,h1,h⟩:=zap h
 obtain⟨c,h2,h⟩:=zap h
 obtain⟨rs,h3,rfl⟩:=zav h
 exact⟨_,c,body,h1,h2,h3,rfl⟩
variable {A:AProg} {app:App} {n:Nat}
theorem zkK (hL:Linked T A P) (happ:zjv T P A.sh app) {f:FuncId} {args:List V} {margs:List Value} (s:Sim P A.sh κ φ H w) (ha:Args φ w (stab κ φ H) args margs) {v:V} (h:zex A app n f args H=some (v,H')):
 ∃fn,P.funcs[f]? =some fn∧(fn.name== "runtime.NumGoroutine")=false∧fn.body.isSome=true∧CallsIn Fence.wide 0 P f margs.toArray w (zem P A.sh κ φ H w v H'):=by
 unfold zex at h
 cases hpr:A.prim f with
 |some p=>
  rw[hpr]at h
  obtain⟨ds,h1,h⟩:=zap h
  obtain⟨x,h2,h3⟩:=zav h
  simp only[Prod.mk.injEq]at h3
  obtain⟨rfl,rfl⟩:=h3
  have:=zdk h1
  subst this
  obtain⟨fn,g1,g2,g3,g4⟩:=hL.prim f p hpr
  obtain⟨a1,a2⟩:=zhY ha
  refine⟨fn,g1,g2,g3,(g4 w (fun m o=>stab κ φ H m o∧m<w.heap.size) ds margs x (s.tab.mono fun m o v hs hc=>⟨⟨hs,lt_of_cell hc⟩,hc⟩) (by simpa using a1) (fun j y hy=> ?_) (fun m o h=>h.2) h2).mono fun e w' hp=> ?_⟩
  ·have:=(a2 j (.d y) (by simp[hy])).d_inv
   refine this.mono fun m o v hs hc=>⟨⟨hs,?_⟩,hc⟩
   rcases Nat.lt_or_ge m w.heap.size with h1|h1
   ·exact h1
   ·simp[World.cell?,Array.getElem?_eq_none h1]at hc
  ·cases e with
   |panicked c=>exact hp.elim
   |outgrown=>exact hp.elim
   |returned mv=>
    obtain⟨k1,k2,k3,k4,k5,k6⟩:=hp
    obtain⟨s1,e1⟩:=zkH s k1 k2 k3 k4 k5
    refine⟨φ,s1,e1,.d (k6.mono fun m o v hs hc=>⟨?_,hc⟩),fun _ _ h=>h⟩
    rcases hs with hs|hs
    ·exact hs.1
    ·refine⟨fun hB=> ?_,fun b sz hb=> ?_⟩
     ·have:=s.base;omega
     ·have:=s.lt hb;omega
 |none=>
  rw[hpr]at h
  dsimp only at h
  obtain⟨a,h1,h⟩:=zap h
  obtain⟨fn,g1,g2,g3⟩:=hL.fn f a hpr h1
  obtain⟨U,c,body,b1,b2,b3,b4⟩:=zrx g2
  refine⟨fn,g1,g3,by rw[b1];rfl,?_⟩
  obtain⟨a1,a2⟩:=zhY ha
  cases hx:zbn app A.sh n a.body {r:=fun i=>args.getD i .undef,h:=H}with
  |none=>rw[hx]at h;cases h
  |some q=>
   obtain⟨e,st'⟩:=q
   rw[hx]at h
   rw[b4]at hx
   refine callsIn_of_wp_marks g1 b1 trivial ?_
   refine zeo (lo:=w.heap.size) (ro:=none) happ (fun _=>rfl) body c b2 κ φ w {r:=fun i=>args.getD i .undef,h:=H} st' e _ _ hx s ?_ Marks.nil (Nat.le_refl _) ?_
   ·refine⟨by simp;omega,fun t _ ht=> ?_⟩
    show Rel φ w (stab κ φ H) (args.getD t .undef) _
    cases hat:args[t]? with
    |none=>rw[List.getD_eq_getElem?_getD,hat];exact .undef _
    |some x=>
     rw[List.getD_eq_getElem?_getD,hat]
     have:=a2 t x hat
     have hlt:t<margs.length:=by have:=zas hat;omega
     have h5:(margs.toArray++Array.replicate (fn.ntmps-margs.toArray.size) undef).getD t undef=margs.getD t undef:=by
      simp[Array.getD,hlt,Array.getElem_append,List.getD_eq_getElem?_getD]
      omega
     rw[h5];exact this
   ·intro a' w' φ' s1 e1 r1 m1 u1
    obtain⟨bs,d1,d2,d3⟩:=m1
    cases e with
    |exit id=>cases h
    |normal=>
     obtain⟨vs,hv,h2⟩:=zav h
     simp only[Prod.mk.injEq]at h2
     obtain⟨rfl,rfl⟩:=h2
     have:=zfL b3 hv u1 bs w' s1 e1 r1 d2 d3
     rw[←d1]at this
     exact this
    |ret=>
     obtain⟨vs,hv,h2⟩:=zav h
     simp only[Prod.mk.injEq]at h2
     obtain⟨rfl,rfl⟩:=h2
     have:=zfL b3 hv u1 bs w' s1 e1 r1 d2 d3
     rw[←d1]at this
     exact this
theorem zmp {U:Nat→Bool} {nt:Nat}:∀(ps:List Nat) (args:List V) (margs:List Value) (r r':Regs) (tmps:Array Value),(∀t∈ps,t<nt)→zbe ps args r=some r'→Args φ w S args margs→RR φ w S U nt r tmps→
 margs.length=ps.length∧RR φ w S U nt r' ((ps.zip margs).foldl (fun tmps x=>tmps.setIfInBounds x.1 x.2) tmps)
 |[],[],_,r,r',tmps,_,h,ha,hr=>by
  cases ha
  simp only[zbe,Option.some.injEq]at h;subst h
  exact⟨rfl,hr⟩
 |t::ps,x::args,_,r,r',tmps,hps,h,ha,hr=>by
  cases ha with
  |cons hx ha=>
   rename_i v m
   simp only[zbe]at h
   obtain⟨h1,h2⟩:=zmp ps args m _ r' (tmps.setIfInBounds t v) (fun k hk=>hps k (by simp[hk])) h ha ⟨by simpa using hr.1,fun k hu hk=>by
    by_cases hkt:k=t
    ·subst hkt
     have hlt:k<tmps.size:=Nat.lt_of_lt_of_le hk hr.1
     have h5:(tmps.setIfInBounds k v).getD k undef=v:=by simp[Array.getD,hlt]
     rw[h5];simpa[Regs.set]using hx
    ·have hlt:k<tmps.size:=Nat.lt_of_lt_of_le hk hr.1
     have h5:(tmps.setIfInBounds t v).getD k undef=tmps.getD k undef:=by simp[Array.getD,hlt,Array.getElem_setIfInBounds,Ne.symm hkt]
     have h6:(r.set t x) k=r k:=by
      have:(k==t)=false:=by simpa using hkt
      simp[Regs.set,this]
     rw[h5,h6];exact hr.2 k hu hk⟩
   exact⟨by simp[h1],h2⟩
 |[],_::_,_,_,_,_,_,h,_,_=>by simp[zbe]at h
 |_::_,[],_,_,_,_,_,h,_,_=>by simp[zbe]at h
theorem zyE (happ:zjv T P sh app) {b:Nat} {args:List V} {margs:List Value} {mf:Value} (s:Sim P sh κ φ H w) (hf:Rel φ w (stab κ φ H) (.yld b) mf) (ha:Args φ w (stab κ φ H) args margs) {v:V} (h:round app sh n b args H=some (v,H')):
 Does P w mf margs (zem P sh κ φ H w v H'):=by
 unfold round at h
 cases hgb:H.get b with
 |none=>rw[hgb]at h;cases h
 |some blk=>
  rw[hgb]at h
  cases blk with
  |els z l fz=>cases h
  |map es c=>cases h
  |it s p=>cases h
  |loop L=>
   dsimp only at h
   obtain⟨rg,h1,h⟩:=zap h
   obtain⟨m,sz,hφ,hrb⟩:=s.get hgb
   obtain⟨r,U,nt,g1,g2,g3,g4,g5,g6,g7,g8⟩:=hrb
   cases hf with
   |yld hφ'=>
   rename_i m'
   have hmm:m'=m:=by
    rcases hφ' with h|⟨sz',h⟩
    ·rw[h]at hφ;cases hφ
    ·rw[h]at hφ;cases hφ;rfl
   subst hmm
   obtain⟨p1,p2⟩:=zmp L.params args margs _ rg r.tmps g7 h1 ha g8
   rw[g4]at p1 p2
   cases hx:zbn app sh n L.assign {r:=rg,h:=H}with
   |none=>rw[hx]at h;cases h
   |some q=>
    obtain⟨e,st⟩:=q
    rw[hx]at h
    cases e with
    |exit i=>cases h
    |ret=>cases h
    |normal=>
     dsimp only at h
     refine .yld m' r rfl g1 (by simpa using p1) (roundIn_of_wpIn trivial ?_)
     have htm:(r.params.zip margs.toArray).foldl (fun tmps (x:Nat×Value)=>tmps.setIfInBounds x.1 x.2) r.tmps=(r.params.toList.zip margs).foldl (fun tmps x=>tmps.setIfInBounds x.1 x.2) r.tmps:=by
      rw[←Array.foldl_toList];simp
     refine zeo (lo:=0) (ro:=some m') (nt:=nt) (U:=U) happ (fun h=>by cases h) r.assign L.assign g5 κ φ w {r:=rg,h:=H} st .normal _ _ hx s (by rw[←htm]at p2;exact p2) Marks.nil (Nat.zero_le _) ?_
     intro a1 w1 φ1 s1 e1 r1 _ u1
     have at1:∀{φ2:Place} {H2:Heap} {w2:World},Ext κ φ H w φ2 H2 w2→∀{mm ss},φ2 b= .at mm ss→mm=m'∧ss=sz:=fun e2 mm ss h2=>by
      rcases e2.loc b (by rw[hφ];simp)with h|h
      ·rw[h2,hφ]at h;cases h;exact⟨rfl,rfl⟩
      ·rw[h2]at h;cases h
     cases hgb1:st.h.get b with
     |none=>rw[hgb1]at h;cases h
     |some blk1=>
      rw[hgb1]at h
      cases blk1 with
      |els z l fz=>cases h
      |map es c=>cases h
      |it s p=>cases h
      |loop L1=>
       dsimp only at h
       split at h
       case isFalse=>cases h
       rename_i hready
       obtain⟨⟨e2,st2⟩,h2,h⟩:=zap h
       dsimp only at h
       obtain⟨m1,sz1,hφ1,hrb1⟩:=s1.get hgb1
       obtain⟨rfl,rfl⟩:=at1 e1 hφ1
       obtain⟨r1',U1,nt1,q1,q2,q3,q4,q5,q6,q7,q8⟩:=hrb1
       have hr1:r1'.state= .ready:=by
        rw[hready]at q2
        revert q2
        cases r1'.state<;>simp[LSt.is]
       refine⟨_,run_beginRound q1 hr1,?_⟩
       obtain⟨s2,e3⟩:=zkJ (L':={L1 with state:= .busy}) (r':={r1' with state:= .busy}) s1 hφ1 hgb1 q1 (fun e1=>⟨{r1' with state:= .busy},U1,nt1,World.putObj_heap_same (zeD q1),trivial,q3,q4,q5,q6,q7,e1.rr q8⟩)
       refine zeo (lo:=0) (ro:=some m1) (nt:=nt) (U:=U) happ (fun h=>by cases h) r.body L.body g6 κ φ1 _ {r:=st.r,h:=st.h.put b (.loop {L1 with state:= .busy})} st2 e2 a1 _ h2 s2 (e3.rr r1) (by
        obtain⟨bs,hh⟩:∃bs,Marks 0 φ1 bs w1:=⟨[],Marks.nil⟩
        exact(by assumption:Marks 0 φ1 a1.defers w1).ext e3) (Nat.zero_le _) ?_
       intro a3 w3 φ3 s3 e4 r3 _ u3
       have eAll:=(e1.trans e3).trans e4
       cases hgb3:st2.h.get b with
       |none=>rw[hgb3]at h;cases h
       |some blk3=>
        rw[hgb3]at h
        cases blk3 with
        |els z l fz=>cases h
        |map es c=>cases h
        |it s p=>cases h
        |loop L3=>
         dsimp only at h
         simp only[Option.some.injEq,Prod.mk.injEq]at h
         obtain⟨hv,hH⟩:=h
         obtain⟨m3,sz3,hφ3,hrb3⟩:=s3.get hgb3
         obtain⟨rfl,rfl⟩:=at1 eAll hφ3
         obtain⟨r3',U3,nt3,t1,t2,t3,t4,t5,t6,t7,t8⟩:=hrb3
         have fin:∀(j:Option Jump) (mj:Option Code),Jump.is j mj→v= .d (.bool j.isNone)→H'=st2.h.put b (.loop {L3 with state:=if j.isNone then .ready else .done,pending:=j})→
          ∃vv ww,(Instr.endRound m3 mj).run P w3= .ok vv ww∧zem P sh κ φ H w v H' (.returned vv) ww:=by
          intro j mj hj hv hH
          subst hv;subst hH
          have hji:mj.isNone=j.isNone:=by
           cases j with
           |none=>cases mj with
            |none=>rfl
            |some c=>exact hj.elim
           |some x=>cases mj with
            |none=>cases x<;>exact hj.elim
            |some c=>rfl
          refine⟨_,_,run_endRound mj t1,φ3,?_⟩
          obtain⟨s4,e5⟩:=zkJ (L':={L3 with state:=if j.isNone then .ready else .done,pending:=j}) (r':={r3' with state:=if mj.isNone then .ready else .done,pending:=mj}) s3 hφ3 hgb3 t1 (fun e1=>
           ⟨{r3' with state:=if mj.isNone then .ready else .done,pending:=mj},U3,nt3,World.putObj_heap_same (zeD t1),by rw[hji];cases j.isNone<;>trivial,hj,t4,t5,t6,t7,e1.rr t8⟩)
          exact⟨s4,eAll.trans e5,by rw[hji];exact .d (.bool _),fun c hc hu=>u3 c (Nat.lt_of_lt_of_le hc e1.next) (u1 c hc hu)⟩
         cases e2 with
         |normal=>exact fin none none trivial hv.symm hH.symm
         |ret=>exact fin (some .ret) (some .ret) trivial hv.symm hH.symm
         |exit i=>exact fin (some (.exit i)) (some (.exit i)) rfl hv.symm hH.symm
theorem Args.append {l l':List V} {m m':List Value} (h:Args φ w S l m) (h':Args φ w S l' m'):Args φ w S (l++l') (m++m'):=by
 induction h with
 |nil=>exact h'
 |cons hr _ ih=>exact .cons hr ih
theorem zkL:∀{l:List V} {m:List Value},m.length=l.length→(∀(j:Nat) x v,l[j]? =some x→m[j]? =some v→Rel φ w S x v)→Args φ w S l m
 |[],[],_,_=> .nil
 |x::l,v::m,hl,h=> .cons (h 0 x v rfl rfl) (zkL (by simpa using hl) fun j y u hy hu=>h (j+1) y u (by simpa using hy) (by simpa using hu))
 |[],_::_,hl,_=>by simp at hl
 |_::_,[],hl,_=>by simp at hl
theorem zux (hL:Linked T A P):∀n,zjv T P A.sh (zdO A n)
 |0=>fun κ φ H w fv args v H' mf margs s hf ha h=>by simp[zdO]at h
 |n+1=>fun κ φ H w fv args v H' mf margs s hf ha h=>by
  have ih:=zux hL n
  simp only[zdO]at h
  split at h
  ·rename_i f
   obtain⟨fn,h1,h2,h3,h4⟩:=zkK hL ih s ha h
   cases hf with
   |d hd=>
    cases hd
    exact .fn f #[] #[] fn rfl h1 h2 h3 (by simpa using h4)
  ·rename_i f first cap
   cases hf with
   |clo hs hh ht hh'=>
    rename_i vs us
    have ha':Args φ w (stab κ φ H) (first++args++cap) (vs.toList++margs++us.toList):=
     ((zkL (by simpa using hs) fun j x v hx hv=>hh j x v hx (by simpa using hv)).append ha).append (zkL (by simpa using ht) fun j x v hx hv=>hh' j x v hx (by simpa using hv))
    obtain⟨fn,h1,h2,h3,h4⟩:=zkK hL ih s ha' h
    refine .fn f vs us fn rfl h1 h2 h3 ?_
    have he:(vs.toList++margs++us.toList).toArray=vs++margs.toArray++us:=by simp
    rw[he]at h4;exact h4
  ·rename_i b
   exact zyE ih s hf ha h
  ·cases h
theorem zIr (hL:Linked T A P) {f:FuncId} {ds:List D} {x:D} (h:pc A f ds=some x) {S:Nat→Nat→Prop} (hT:Met T S w) {margs:List Value} (hl:margs.length=ds.length) (ha:∀(j:Nat) y,ds[j]? =some y→RD w S y (margs.getD j undef)):
 ∃fn,P.funcs[f]? =some fn∧(fn.name== "runtime.NumGoroutine")=false∧fn.body.isSome=true∧CallsIn Fence.wide 0 P f margs.toArray w fun e w'=>match e with
  | .returned mv=>(∀m,m<w.heap.size→w'.heap[m]? =w.heap[m]?)∧w.heap.size≤w'.heap.size∧w'.os=w.os∧w'.tape=w.tape∧w'.output=w.output∧RD w' (fun m o=>S m o∨w.heap.size≤m) x mv
  |_=>False:=by
 unfold pc at h
 obtain⟨⟨v,h2⟩,h1,h⟩:=zap h
 obtain⟨⟨y,h3⟩,h4,rfl⟩:=zav h
 obtain⟨n,hn⟩:=zcP.1 h1
 let κ':Ctx T:=⟨w.heap.size,S⟩
 let φ0:Place:=fun _=> .unborn
 have s0:Sim P A.sh κ' φ0 Heap.empty w:=⟨Nat.le_refl _,fun b m sz h=>(by cases h),fun b x h=>(by simp[Heap.empty]at h),fun _ _=>rfl,fun b b' m sz sz' h=>(by cases h),fun x hx=>⟨⟨fun _=>(hT x hx).1,fun b sz hb=>(by cases hb)⟩,(hT x hx).2⟩⟩
 have ha':Args φ0 w (stab κ' φ0 Heap.empty) (ds.map .d) margs:=znX hl fun j y hy=>
  (ha j y hy).mono fun m o v hs hc=>⟨⟨fun _=>hs,fun b sz hb=>(by cases hb)⟩,hc⟩
 cases n with
 |zero=>simp[zdO]at hn
 |succ n=>
  simp only[zdO]at hn
  obtain⟨fn,g1,g2,g3,g4⟩:=zkK hL (zux hL n) s0 ha' hn
  refine⟨fn,g1,g2,g3,g4.mono fun e w2 hp=> ?_⟩
  cases e with
  |panicked c=>exact hp.elim
  |outgrown=>exact hp.elim
  |returned mv=>
   obtain⟨φ2,s2,e2,r2,_⟩:=hp
   obtain⟨s3,e3,r3⟩:=ztX (P:=P) (sh:=A.sh) (κ:=κ') (φ:=φ2) (w:=w2) 8 h2 v y h3 mv s2 h4 r2
   refine⟨fun m hm=>(e2.frame m hm (fun b sz hb=>by cases hb)).1,e2.size,e2.os,e2.tape,e2.output,r3.mono fun m o v hs hc=>⟨?_,hc⟩⟩
   rcases Nat.lt_or_ge m w.heap.size with hm|hm
   ·exact .inl (hs.1 hm)
   ·exact .inr hm
end Go.AI
