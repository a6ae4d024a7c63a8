/- Shaken copy of a longer text: what one law needs. Its conditions: none. -/
import Derived.Test.YtfleilibjdgcjaaPBSpIt
import Derived.Test.YtfleilibjdgcjaaPBSpPt
set_option linter.unusedSimpArgs false
set_option linter.unusedVariables false
set_option linter.unusedSimpArgs false
set_option linter.unusedVariables false
set_option linter.unusedSectionVars false
set_option linter.unnecessarySimpa false
namespace Go.Proofs.Ytfleilibjdgcjaa.B
open Go.AI
theorem zso (k:Int):pc prog 144 [.int .u8 k]=some (.bool (zcc k)):=by
 refine zNK k _ ?_
 unfold zNJ
 have:pc prog 140 [.int .u8 k]=some (.bool (k==3||k==4)):=by
  refine zNI k _ ?_
  unfold zNH
  rw[bor]
 rw[this,zat (e:=D.bool),Option.bind_some,bor,bor]
 unfold zcc
 rw[Bool.or_right_comm]
theorem zmL (f:Forest) (h:Int) (hf:Fit f.nodes.l):pc prog 114 [zad f,.int .i64 h]=some (.int .i64 (zey f.nodes.l h:Nat)):=by
 refine zNG f h _ ?_
 unfold zNF zey
 rw[zlw f h hf.1,zat (e:=zag),Option.bind_some,zso,zat (e:=D.bool),Option.bind_some]
 by_cases hd:zcc (nodeD f.nodes.l h).kind=true
 ·rw[if_pos hd,if_pos hd]
 ·rw[if_neg hd,if_neg hd];rfl
theorem zkA {f:List Node} (hr:zaQ f) (h:Int):zey f h≤16384:=by
 by_cases hh:isN f h
 ·unfold zey
  obtain⟨hm,-,-⟩:=zew hr hh
  unfold ziL at hm
  simp only[Bool.and_eq_true]at hm
  have h1:=of_decide_eq_true hm.1.1.1.1.1.1.2
  split
  ·exact h1
  ·have h2:=zzj hr hh
   rw[all_in hr hh,List.length_cons]at h2
   have h3:(kidsL f h).length≤((kidsL f h).flatMap (zii f)).length:=by
    have:=zkz (c:=1) (g:=fun k:Int=>[k]) (g':=zii f) (l:=kidsL f h) fun k hk=>by
     rw[all_in hr (zcW hr hk).2.1];simp
    rw[Nat.mul_one]at this
    simpa using this
   have:=hr.1
   omega
 ·unfold zey kidsL
  rw[zht hh]
  decide
theorem zCO {k:IntKind} {n:Int}:unV .neg (.d (.int k n))=some (.d (.int k (k.wrap (0-n)))):=rfl
theorem zzp {n:Nat} {h:Heap} {x:D} {l:List V}:zxk (res n) h (.d x::l) (Option.map (fun y=>x::y) (allD l))=zbx (res n) h (.d x::l):=zrs (l:= .d x::l)
theorem zuM {b i o n fr c:Nat} {l:List V} {x:D} (h1:(fr !=b)=true) (h2:(c !=b)=true):zlK (some (.cells b i o n)) (znn fr (mb c l) (.d x))=true:=by
 cases l with
 |nil=>simp only[mb,znn,zfb,zlM,List.all_cons,List.all_nil,h1,Bool.and_true]
 |cons y l=>simp only[mb,znn,zfb,zlM,List.all_cons,List.all_nil,h1,h2,Bool.and_true]
theorem zzq {n b len z fz:Nat} {h:Heap} {α:Type} {e:α→D} {l m:List α} (hl:len=l.length+m.length):zBy n b len h (some (.els z ((l.map fun t=>V.d (e t))++m.map fun t=>V.d (e t)) fz))=some (.list false ((l++m).map e),AI.freeze h b len):=by
 have:=zro (h:=h) (n:=n) (b:=b) (len:=len) (z:=z) (fz:=fz) (xs:=(l++m).map e) (by simp[hl])
 simpa[List.map_map,Function.comp_def]using this
attribute [go_sem] zCO zzp zuM zzq
theorem zkB {σ ρ α:Type} {step:σ→α→Option (σ⊕ρ)} {x:σ} {a:α} {o:σ⊕ρ} (h:foldI step x [a]=some o):step x a=some o:=by
 simp only[foldI]at h
 obtain⟨p,h1,h2⟩:=Option.bind_eq_some_iff.1 h
 cases p with
 |inl z=>rw[h1,←h2]
 |inr z=>rw[h1,←h2]
abbrev zCP (f:Forest) (h:Int) (y:V):List V:=[.d (zad f),.d (.int .i64 h),y]
section
variable {σ ρ:Type} {n:Fx} {b c0 c1 N0:Nat} {S:σ→Heap} {F:ρ→Heap} {step:σ→Bound→Option (σ⊕ρ)} {P:Nat→Prop} {G:Nat→Option Blk} {Q:Ex→St→Prop} {o:σ⊕ρ}
theorem zqE {f:Forest} (hf:Fit f.nodes.l) (hr:zaQ f.nodes.l) {h:Int} (hh:isN f.nodes.l h) (ih:∀k∈kidsL f.nodes.l h,Iter prog 179 (zCP f k) zal (zdN f.nodes.l k))
 (Y:Yl prog n b zal S F step) (hS:∀x,n.1≤(S x).next) (hF:∀r,n.1≤(F r).next) (hP0:P c0) (hP1:P c1)
 (hQe:∀r K,o.isLeft=true→Emb n P (SF S F o) K→(∀c,P c→K.get c=G c)→N0≤K.next→Q (.exit 0) ⟨r,K⟩)
 (hQr:∀r K,o.isLeft=false→r 6= .d (.bool false)→Emb n P (SF S F o) K→(∀c,P c→K.get c=G c)→N0≤K.next→Q .ret ⟨r,K⟩) (hG0:G c0=some (.els 1 [.d (zad f)] 0)) (hG1:G c1=some (.els 16 [.d (zag (nodeD f.nodes.l h))] 0)):
 ∀m k,k+m=zey f.nodes.l h+1→∀(y:σ) (K:Heap) (r:Regs),r 1= .d (.int .i64 h)→r 2= .yld b→r 3= .ptr c0 0 0→r 7= .ptr c1 0 0→r 8= .d (.int .i64 (k:Int))→
  Emb n P (S y) K→(∀c,P c→K.get c=G c)→N0≤K.next→foldI step y ((List.range' k m).flatMap (pce f.nodes.l (zdN f.nodes.l) h))=some o→Wp prog (.loop zlo) ⟨r,K⟩ Q:=by
 intro m
 induction m with
 |zero=>
  intro k hk y K r r1 r2 r3 r7 r8 hE hK hN hfo
  obtain rfl:k=zey f.nodes.l h+1:=by omega
  cases hfo
  have hbox:K.get c0=some (.els 1 [.d (zad f)] 0):=(hK c0 hP0).trans hG0
  refine Wp.peel ?_
  obtain⟨Q1,hQ1⟩:∃Q1,Q1=Ex.seq prog (.loop zlo) Q:=⟨_,rfl⟩
  rw[←hQ1]
  delta zlo
  simp only[go_sem,r1,r3,r8,hbox]
  refine zar (zmL f h hf) ?_
  simp only[go_sem]
  rw[show decide (((zey f.nodes.l h+1:Nat):Int)≤((zey f.nodes.l h:Nat):Int))=false from decide_eq_false (by omega)]
  simp only[go_sem]
  rw[hQ1]
  exact hQe _ _ rfl (hE.bump (Y.locS _) (hS _) 5) hK (Nat.le_trans hN (Nat.le_add_right _ _))
 |succ m ihm=>
  intro k hk y K r r1 r2 r3 r7 r8 hE hK hN hfo
  have hw:=zaM (show k<2^62 by have:=zkA hr h;omega)
  have hbox:K.get c0=some (.els 1 [.d (zad f)] 0):=(hK c0 hP0).trans hG0
  have hbox1:K.get c1=some (.els 16 [.d (zag (nodeD f.nodes.l h))] 0):=(hK c1 hP1).trans hG1
  rw[List.range'_succ,List.flatMap_cons,zhd]at hfo
  obtain⟨o1,hf1,hf2⟩:=Option.bind_eq_some_iff.1 hfo
  refine Wp.peel ?_
  obtain⟨Q1,hQ1⟩:∃Q1,Q1=Ex.seq prog (.loop zlo) Q:=⟨_,rfl⟩
  rw[←hQ1]
  delta zlo
  simp only[go_sem,r1,r3,r8,hbox]
  refine zar (zmL f h hf) ?_
  simp only[go_sem]
  rw[show decide ((k:Int)≤((zey f.nodes.l h:Nat):Int))=true from decide_eq_true (by omega)]
  simp only[go_sem,r1,r2,r3,r7,r8]
  by_cases hk0:0<k
  case neg=>
   have hs:step y ⟨h,(k:Int)⟩=some o1:=by
    refine zkB ?_
    rw[←hf1];unfold pce;rw[if_neg (by omega)];rfl
   rw[show decide ((0:Int)<(k:Int))=false from decide_eq_false (by omega)]
   simp only[go_sem,r1,r2,r8]
   obtain⟨K2,e2,M4,M5,M6⟩:=Y.call zbe (hs) (((hE.bump (Y.locS _) (hS _) 5).bump (Y.locS _) (hS _) 20).bump (Y.locS _) (hS _) 6)
   have hnx:N0≤K2.next:=by
    have:K.next+5+20+6≤K2.next:=M6
    omega
   refine zfa e2 ?_
   cases o1 with
   |inl z=>
    simp only[go_sem,Bool.not_true,r8,hw]
    rw[hQ1]
    refine ihm (k+1) (by omega) z _ _ ?_ ?_ ?_ ?_ ?_ (M4.bump (Y.locS _) (hS _) 3) (fun c hc=>(M5 c hc).trans (hK c hc)) (Nat.le_trans hnx (Nat.le_add_right _ _)) hf2
    ·simp only[go_sem,r1]
    ·simp only[go_sem,r2]
    ·simp only[go_sem,r3]
    ·simp only[go_sem,r7]
    ·simp only[go_sem]
   |inr z=>
    cases hf2
    simp only[go_sem,Bool.not_false]
    rw[hQ1]
    refine hQr _ _ rfl ?_ (M4.bump (Y.locF _) (hF _) 1) (fun c hc=>(M5 c hc).trans (hK c hc)) (Nat.le_trans hnx (Nat.le_add_right _ _))
    simp only[go_sem]
  rw[show decide ((0:Int)<(k:Int))=true from decide_eq_true (by omega)]
  simp only[go_sem,r3,r7,hbox1]
  refine zar (zso _) ?_
  simp only[go_sem]
  cases hd:zcc (nodeD f.nodes.l h).kind with
  |true=>
   have hs:step y ⟨h,(k:Int)⟩=some o1:=by
    refine zkB ?_
    rw[←hf1];unfold pce;rw[if_neg (by simp[hd])];rfl
   simp only[go_sem,Bool.not_true,r1,r2,r8]
   obtain⟨K2,e2,M4,M5,M6⟩:=Y.call zbe (hs) (((hE.bump (Y.locS _) (hS _) 5).bump (Y.locS _) (hS _) 20).bump (Y.locS _) (hS _) 6)
   have hnx:N0≤K2.next:=by
    have:K.next+5+20+6≤K2.next:=M6
    omega
   refine zfa e2 ?_
   cases o1 with
   |inl z=>
    simp only[go_sem,Bool.not_true,r8,hw]
    rw[hQ1]
    refine ihm (k+1) (by omega) z _ _ ?_ ?_ ?_ ?_ ?_ (M4.bump (Y.locS _) (hS _) 3) (fun c hc=>(M5 c hc).trans (hK c hc)) (Nat.le_trans hnx (Nat.le_add_right _ _)) hf2
    ·simp only[go_sem,r1]
    ·simp only[go_sem,r2]
    ·simp only[go_sem,r3]
    ·simp only[go_sem,r7]
    ·simp only[go_sem]
   |inr z=>
    cases hf2
    simp only[go_sem,Bool.not_false]
    rw[hQ1]
    refine hQr _ _ rfl ?_ (M4.bump (Y.locF _) (hF _) 1) (fun c hc=>(M5 c hc).trans (hK c hc)) (Nat.le_trans hnx (Nat.le_add_right _ _))
    simp only[go_sem]
  |false=>
   have hk2:=hk
   rw[zcT hd]at hk2
   have hlt:k-1<(kidsL f.nodes.l h).length:=by omega
   have hmem:=zfQ (f:=f.nodes.l) (h:=h) hlt
   have hget:((nodeD f.nodes.l h).kids.l.map (D.int .i64))[k-1]? =some (.int .i64 (zuL f.nodes.l h (k-1))):=by
    rw[zgN hlt]
    unfold kidsL at hlt⊢
    simp[hlt]
   have hw1:IntKind.wrap .i64 ((k:Int)-1)=((k-1:Nat):Int):=by
    rw[show(k:Int)-1=((k-1:Nat):Int) by omega]
    have:=zkA hr h
    exact w64 (by omega) (by omega)
   have hp:pce f.nodes.l (zdN f.nodes.l) h k=zdN f.nodes.l (zuL f.nodes.l h (k-1))++[⟨h,(k:Int)⟩]:=by
    unfold pce;rw[if_pos ⟨hk0,hd⟩]
   rw[hp,zhd]at hf1
   obtain⟨o2,hf3,hf4⟩:=Option.bind_eq_some_iff.1 hf1
   obtain⟨K1,e1,M1,M2,M3⟩:=(ih _ hmem).go Y hS hF hf3 ((hE.bump (Y.locS _) (hS _) 5).bump (Y.locS _) (hS _) 20)
   have hn1:K.next+5+20≤K1.next:=M3
   simp only[go_sem,Bool.not_false,r1,r2,r3,r7,r8,hbox,hbox1,hw1,hget]
   refine zfa e1 ?_
   cases o2 with
   |inr z=>
    cases hf4
    cases hf2
    simp only[go_sem,Bool.not_false]
    rw[hQ1]
    refine hQr _ _ rfl ?_ (M1.bump (Y.locF _) (hF _) 1) (fun c hc=>(M2 c hc).trans (hK c hc)) (Nat.le_trans (show N0≤K1.next by omega) (Nat.le_add_right _ _))
    simp only[go_sem]
   |inl y1=>
    have hs:step y1 ⟨h,(k:Int)⟩=some o1:=zkB hf4
    simp only[go_sem,Bool.not_true,r1,r2,r8]
    obtain⟨K2,e2,M4,M5,M6⟩:=Y.call zbe (hs) (M1.bump (Y.locS _) (hS _) 6)
    have hnx:N0≤K2.next:=by
     have:K1.next+6≤K2.next:=M6
     omega
    refine zfa e2 ?_
    cases o1 with
    |inl z=>
     simp only[go_sem,Bool.not_true,r8,hw]
     rw[hQ1]
     refine ihm (k+1) (by omega) z _ _ ?_ ?_ ?_ ?_ ?_ (M4.bump (Y.locS _) (hS _) 3) (fun c hc=>(M5 c hc).trans ((M2 c hc).trans (hK c hc))) (Nat.le_trans hnx (Nat.le_add_right _ _)) hf2
     ·simp only[go_sem,r1]
     ·simp only[go_sem,r2]
     ·simp only[go_sem,r3]
     ·simp only[go_sem,r7]
     ·simp only[go_sem]
    |inr z=>
     cases hf2
     simp only[go_sem,Bool.not_false]
     rw[hQ1]
     refine hQr _ _ rfl ?_ (M4.bump (Y.locF _) (hF _) 1) (fun c hc=>(M5 c hc).trans ((M2 c hc).trans (hK c hc))) (Nat.le_trans hnx (Nat.le_add_right _ _))
     simp only[go_sem]
end
theorem zqF (f:Forest) (hf:Fit f.nodes.l) (hr:zaQ f.nodes.l):∀h,isN f.nodes.l h→Iter prog 179 (zCP f h) zal (zdN f.nodes.l h):=by
 refine zef hr fun h hh ih=>⟨?_⟩
 intro σ ρ n b S F step Y hS hF x o hfo P K hE
 have hg:∃v K',ans prog (.d (.fn 179)) (zCP f h (.yld b)) K=some (v,K')∧(v= .d (.bool o.isLeft)∧Emb n P (SF S F o) K'∧(∀c,P c→K'.get c=K.get c)∧K.next≤K'.next):=by
  refine zqW rfl rfl ?_
  delta zMq zCP
  simp only[go_sem]
  refine zar (zlw f h hf.1) ?_
  simp only[go_sem]
  obtain⟨K1,hK1⟩:∃K1,K1=(((((K.bump 2).put K.next (.els 1 [.d (zad f)] 0)).bump 5).put (K.next+5) (.els 16 [.d (zag Node.zero)] 0)).put (K.next+5) (.els 16 [.d (zag (nodeD f.nodes.l h))] 0)).bump 1:=⟨_,rfl⟩
  have hn1:K1.next=K.next+8:=by rw[hK1];rfl
  have hold:∀c,c<K.next→K1.get c=K.get c:=fun c hc=>by
   rw[hK1]
   show((((K.bump 2).put K.next _).put (K.next+5) _).put (K.next+5) _).get c=K.get c
   rw[Heap.put_ne _ _ (by omega),Heap.put_ne _ _ (by omega),Heap.put_ne _ _ (by omega)];rfl
  have hE1:=hE.grow (K1:=K1) (Y.locS _) (hS _) (by omega) hold
  have hb0:K1.get K.next=some (.els 1 [.d (zad f)] 0):=by
   rw[hK1]
   show((((K.bump 2).put K.next _).put (K.next+5) _).put (K.next+5) _).get K.next=_
   rw[Heap.put_ne _ _ (by omega),Heap.put_ne _ _ (by omega),Heap.put_eq]
  have hb1:K1.get (K.next+5)=some (.els 16 [.d (zag (nodeD f.nodes.l h))] 0):=by
   rw[hK1]
   show((((K.bump 2).put K.next _).put (K.next+5) _).put (K.next+5) _).get (K.next+5)=_
   rw[Heap.put_eq]
  have hKe:(((((K.bump 2).put K.next (.els 1 [.d (zad f)] 0)).bump 5).put (K.next+5) (.els 16 [.d (.agg [D.int IntKind.u8 0,D.str [],D.str [],D.str [],D.str [],D.str [],D.list true [],D.list true [],D.int IntKind.i64 0,D.list true [],D.int IntKind.i64 0,D.int IntKind.i64 0,D.int IntKind.i64 0,D.int IntKind.u8 0,D.bool false,D.bool false])] 0)).put (K.next+5) (.els 16 [.d (zag (nodeD f.nodes.l h))] 0)).bump 1=K1:=hK1.symm
  rw[hKe]
  rw[zly hr hh,List.range_eq_range']at hfo
  refine zqE (N0:=K.next) (c0:=K.next) (c1:=K.next+5) (G:=K1.get) hf hr hh ih Y hS hF (.inr ⟨Nat.le_refl _,by omega⟩) (.inr ⟨by omega,by omega⟩) ?_ ?_ hb0 hb1 (zey f.nodes.l h+1) 0 (by omega) x _ _ ?_ ?_ ?_ ?_ ?_ hE1 (fun _ _=>rfl) (by omega) hfo
  ·intro r K3 hl M4 M5 M6
   simp only[go_sem]
   exact⟨by rw[hl],(M4.bump (Y.loc _) (zyh Y hS hF _) 1).mono fun _=> .inl,fun c hc=>by rw[M5 c (.inl hc),hold c (hE.lt c hc)],Nat.le_trans M6 (Nat.le_add_right _ _)⟩
  ·intro r K3 hl h6 M4 M5 M6
   simp only[go_sem,h6]
   exact⟨by rw[hl],M4.mono fun _=> .inl,fun c hc=>by rw[M5 c (.inl hc),hold c (hE.lt c hc)],M6⟩
  all_goals first|(simp only[go_sem];done)|(simp only[go_sem];rfl)
 obtain⟨v,K',h1,rfl,h2⟩:=hg
 exact⟨K',h1,h2⟩
noncomputable def zhx (f:Forest) (h:Int):Option (List Bound):=open Classical in if Fit f.nodes.l∧zaQ f.nodes.l∧isN f.nodes.l h then some (zdN f.nodes.l h)else none
theorem zoU {f:Forest} {h:Int} {l:List Bound} (e:zhx f h=some l):Iter prog 179 (fun y=>[.d (zad f),.d (.int .i64 h),y]) zal l:=by
 unfold zhx at e
 obtain⟨⟨h1,h2,h3⟩,rfl⟩:=by simpa using e
 exact zqF f h1 h2 h h3
theorem zoV {f:Forest} {h:Int} (h1:Fit f.nodes.l) (h2:zaQ f.nodes.l) (h3:isN f.nodes.l h):zhx f h=some (zdN f.nodes.l h):=if_pos ⟨h1,h2,h3⟩
end Go.Proofs.Ytfleilibjdgcjaa.B
